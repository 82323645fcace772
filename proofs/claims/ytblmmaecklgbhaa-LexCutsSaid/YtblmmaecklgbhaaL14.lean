/- A part of the proof of a law of this seat: no condition. -/
import Derived.Test.YtblmmaecklgbhaaL13
set_option linter.unusedSimpArgs false
set_option linter.unusedVariables false
set_option maxRecDepth 20000
namespace Go.Proofs.Ytblmmaecklgbhaa
open Go.Ax
variable {m : Int}
theorem law_cuts (s : List UInt8) (n : Int) : Ok (base m) 7 [.str s, .int .i64 n] [] (.bool true) [] := by
  obtain ⟨l, c, p, e1⟩ : ∃ l c p, lexP s = (l, c, p) := ⟨_, _, _, rfl⟩
  by_cases hyes : c = 0 ∧ 0 ≤ n ∧ n < l.length
  · obtain ⟨rfl, hn0, hnl⟩ := hyes
    obtain ⟨N, rfl⟩ : ∃ N : Nat, n = N := ⟨n.toNat, by omega⟩
    have hN : N < l.length := by omega
    have hN2 : ¬ l.length ≤ N := by omega
    have hN3 : ¬ (l.length : Int) ≤ (N : Int) := by omega
    obtain ⟨c1, c2, c3⟩ := lex_cut e1 hN
    have hll : l.length ≤ 65536 := by have := lexP_len s; rw [e1] at this; exact this
    obtain ⟨e, he⟩ : ∃ e, e = (nth l N).pos + (nth l N).text.length := ⟨_, rfl⟩
    rw [← he] at c1 c3
    have hwe : IntKind.wrap .i64 (((nth l N).pos : Int) + ((nth l N).text.length : Nat)) = (e : Int) := wrapN (by omega) (by omega)
    have hwN : IntKind.wrap .i64 ((N : Int) + 1) = ((N + 1 : Nat) : Int) := wrapN (by omega) (by omega)
    have hmin : min (N + 1) l.length = N + 1 := by omega
    refine k7 (viaS sok10 ?_)
    have hp : True := trivial
    repeat' first
      | refine s_seq ?_
      | refine s_skip ?_
      | (refine s_reg fun K hK => ?_; simp +contextual [S10, sp9, sp10, encF, e1, hN, hN2, hN3, c1, c3, hwe, hwN, encT, hmin, -List.map_take, hp]; refine hK _ ?_; clear hK K)
      | (refine s_regD fun K hK => ?_; simp +contextual [S10, sp9, sp10, encF, e1, hN, hN2, hN3, c1, c3, hwe, hwN, encT, hmin, -List.map_take, hp]; refine finD rfl ?_; simp; refine hK _ ?_; clear hK K)
      | (refine c_reg fun K hK => ?_; simp +contextual [S10, sp9, sp10, encF, e1, hN, hN2, hN3, c1, c3, hwe, hwN, encT, hmin, -List.map_take, hp]; refine hK _ ?_; clear hK K)
      | (refine c_regD fun K hK => ?_; simp +contextual [S10, sp9, sp10, encF, e1, hN, hN2, hN3, c1, c3, hwe, hwN, encT, hmin, -List.map_take, hp]; refine finD rfl ?_; simp; refine hK _ ?_; clear hK K)
      | (refine c_cond rfl (fun h => ?_) (fun h => ?_) <;> (replace hp := And.intro h hp; clear h; try simp only [Bool.eq_false_iff, ne_eq, Bool.and_eq_true, Bool.or_eq_true, Bool.not_eq_true', decide_eq_true_eq, Bool.false_eq_true, Bool.true_eq_false, Decidable.not_not, not_true_eq_false, not_false_eq_true, false_and, true_and] at hp))
      | (refine s_cond rfl (fun h => ?_) (fun h => ?_) <;> (replace hp := And.intro h hp; clear h; try simp only [Bool.eq_false_iff, ne_eq, Bool.and_eq_true, Bool.or_eq_true, Bool.not_eq_true', decide_eq_true_eq, Bool.false_eq_true, Bool.true_eq_false, Decidable.not_not, not_true_eq_false, not_false_eq_true, false_and, true_and] at hp))
      | refine s_block ?_
      | refine c_block ?_
      | refine c_skip ?_
      | refine s_ret ?_
      | refine c_ret ?_
      | refine c_exit ?_
      | refine s_exit ?_
      | refine leave_r ?_
      | refine next_r ?_
      | refine leave_n ?_
      | refine next_n ?_
      | refine next_e ?_
      | refine leave_eq ?_
      | refine leave_ne (by decide) ?_
      | refine hleave .ret _ (by simp) ?_
      | refine hleave (.exit _) _ (by simp) ?_
      | refine c_seq ?_

    · exfalso; have := hp.1; omega
    refine c_loopI (fun (j : Nat) => (⟨[(1, nV N), (5, .slice 3 (l.map encT)), (7, .slice 3 ((l.take (N + 1)).map encT)), (9, nV j)], []⟩ : St)) (fun j => j ≤ N + 1) (fun j => N + 1 - j) 0 (by simp [restrict]) (by simp) (fun j K' hj hnext hleave => ?_)
    have hjl : j ≤ N → j < l.length := fun h => by omega
    have hjt : j ≤ N → j < (l.take (N + 1)).length := fun h => by simp; omega
    have hnt : j ≤ N → nth (l.take (N + 1)) j = nth l j := fun h => by
      simp [nth, List.getD_eq_getElem?_getD, List.getElem?_take, show j < N + 1 by omega]
    repeat' first
      | refine s_seq ?_
      | refine s_skip ?_
      | (refine s_reg fun K hK => ?_; simp +contextual [S10, sp9, sp10, encF, hjl, hjt, hnt, encT, -List.map_take, -List.length_take, hp]; refine hK _ ?_; clear hK K)
      | (refine s_regD fun K hK => ?_; simp +contextual [S10, sp9, sp10, encF, hjl, hjt, hnt, encT, -List.map_take, -List.length_take, hp]; refine finD rfl ?_; simp; refine hK _ ?_; clear hK K)
      | (refine c_reg fun K hK => ?_; simp +contextual [S10, sp9, sp10, encF, hjl, hjt, hnt, encT, -List.map_take, -List.length_take, hp]; refine hK _ ?_; clear hK K)
      | (refine c_regD fun K hK => ?_; simp +contextual [S10, sp9, sp10, encF, hjl, hjt, hnt, encT, -List.map_take, -List.length_take, hp]; refine finD rfl ?_; simp; refine hK _ ?_; clear hK K)
      | (refine c_cond rfl (fun h => ?_) (fun h => ?_) <;> (replace hp := And.intro h hp; clear h; try simp only [Bool.eq_false_iff, ne_eq, Bool.and_eq_true, Bool.or_eq_true, Bool.not_eq_true', decide_eq_true_eq, Bool.false_eq_true, Bool.true_eq_false, Decidable.not_not, not_true_eq_false, not_false_eq_true, false_and, true_and] at hp))
      | (refine s_cond rfl (fun h => ?_) (fun h => ?_) <;> (replace hp := And.intro h hp; clear h; try simp only [Bool.eq_false_iff, ne_eq, Bool.and_eq_true, Bool.or_eq_true, Bool.not_eq_true', decide_eq_true_eq, Bool.false_eq_true, Bool.true_eq_false, Decidable.not_not, not_true_eq_false, not_false_eq_true, false_and, true_and] at hp))
      | refine s_block ?_
      | refine c_block ?_
      | refine c_skip ?_
      | refine s_ret ?_
      | refine c_ret ?_
      | refine c_exit ?_
      | refine s_exit ?_
      | refine leave_r ?_
      | refine next_r ?_
      | refine leave_n ?_
      | refine next_n ?_
      | refine next_e ?_
      | refine leave_eq ?_
      | refine leave_ne (by decide) ?_
      | refine hleave .ret _ (by simp) ?_
      | refine hleave (.exit _) _ (by simp) ?_
      | refine c_seq ?_

    · refine hnext _ (j + 1) ?_ (by have := hp.1; omega) (by have := hp.1; omega)
      simp [restrict, wrapN (n := (j : Int) + 1) (m := j + 1) (by omega) (by omega)]
    · simp [EndA]
  · refine k7 (viaS sok10 ?_)
    have hp : True := trivial
    repeat' first
      | refine s_seq ?_
      | refine s_skip ?_
      | (refine s_reg fun K hK => ?_; simp +contextual [S10, sp9, sp10, encF, e1, hp]; refine hK _ ?_; clear hK K)
      | (refine s_regD fun K hK => ?_; simp +contextual [S10, sp9, sp10, encF, e1, hp]; refine finD rfl ?_; simp; refine hK _ ?_; clear hK K)
      | (refine c_reg fun K hK => ?_; simp +contextual [S10, sp9, sp10, encF, e1, hp]; refine hK _ ?_; clear hK K)
      | (refine c_regD fun K hK => ?_; simp +contextual [S10, sp9, sp10, encF, e1, hp]; refine finD rfl ?_; simp; refine hK _ ?_; clear hK K)
      | (refine c_cond rfl (fun h => ?_) (fun h => ?_) <;> (replace hp := And.intro h hp; clear h; try simp only [Bool.eq_false_iff, ne_eq, Bool.and_eq_true, Bool.or_eq_true, Bool.not_eq_true', decide_eq_true_eq, Bool.false_eq_true, Bool.true_eq_false, Decidable.not_not, not_true_eq_false, not_false_eq_true, false_and, true_and] at hp))
      | (refine s_cond rfl (fun h => ?_) (fun h => ?_) <;> (replace hp := And.intro h hp; clear h; try simp only [Bool.eq_false_iff, ne_eq, Bool.and_eq_true, Bool.or_eq_true, Bool.not_eq_true', decide_eq_true_eq, Bool.false_eq_true, Bool.true_eq_false, Decidable.not_not, not_true_eq_false, not_false_eq_true, false_and, true_and] at hp))
      | refine s_block ?_
      | refine c_block ?_
      | refine c_skip ?_
      | refine s_ret ?_
      | refine c_ret ?_
      | refine c_exit ?_
      | refine s_exit ?_
      | refine leave_r ?_
      | refine next_r ?_
      | refine leave_n ?_
      | refine next_n ?_
      | refine next_e ?_
      | refine leave_eq ?_
      | refine leave_ne (by decide) ?_
      | refine hleave .ret _ (by simp) ?_
      | refine hleave (.exit _) _ (by simp) ?_
      | refine c_seq ?_

    · simp [EndA]
    · exfalso
      have := hp.1
      apply hyes
      refine ⟨?_, ?_, ?_⟩
      · apply Decidable.byContradiction; intro h; exact this (.inl h)
      · apply Decidable.byContradiction; intro h; exact this (.inr (.inl (by omega)))
      · apply Decidable.byContradiction; intro h; exact this (.inr (.inr (by omega)))
end Go.Proofs.Ytblmmaecklgbhaa
