/- A part of the proof of a law of this seat: no condition. -/
import Derived.Test.YtblmmaecklgbhaaL9
set_option linter.unusedSimpArgs false
set_option linter.unusedVariables false
set_option maxRecDepth 20000
namespace Go.Proofs.Ytblmmaecklgbhaa
open Go.Ax
variable {m : Int}
theorem lex_name {s : List UInt8} (h0 : 0 < s.length) (h40 : s.length ≤ 40) (hl : isLetter (byteAt s 0) = true) (hr : runN isWordB s 0 = s.length) : lexP s = ([⟨1, s, 0⟩], 0, 0) := by
  have hc : ∀ c : UInt8, isLetter c = true → isBlank c = false ∧ c ≠ 47 := by
    intro c
    unfold isLetter ofI isLetterI isBlank
    intro h
    have h2 : c = 47 → False := fun e => by rw [e] at h; revert h; decide
    refine ⟨?_, h2⟩
    revert h
    generalize (c.toNat : Int) = k
    simp
    omega
  have hb : ¬ isBlank (byteAt s 0) = true := by rw [(hc _ hl).1]; decide
  have hp : ¬ hasPre (s.drop 0) [47, 47] = true := by
    intro h
    simp only [hasPre, Bool.and_eq_true, decide_eq_true_eq] at h
    have h2 := h.2
    rw [List.drop_zero] at h2
    cases s with
    | nil => simp at h0
    | cons a r =>
      simp at h2
      exact (hc _ hl).2 h2.1
  have hn : nextM s 0 = (⟨1, s, 0⟩, 0, 0) := by
    unfold nextM
    dsimp only
    rw [if_pos hl, hr]
    have e : sub s 0 s.length = s := by simp [sub]
    rw [e, if_neg (by omega)]
  unfold lexP
  rw [if_neg (by omega), lexA.eq_1, dif_pos h0, if_neg hb, if_neg hp, hn, if_pos rfl]
  simp only
  rw [lexA.eq_1, dif_neg (by omega)]
  rfl
theorem words_like : ∀ w ∈ words, 0 < w.length ∧ w.length ≤ 40 ∧ isLetter (byteAt w 0) = true ∧ runN isWordB w 0 = w.length := by decide
theorem lex_one {s : List UInt8} (h : isNameP s = true ∨ words.contains s = true) : lexP s = ([⟨1, s, 0⟩], 0, 0) := by
  rcases h with h | h
  · unfold isNameP at h
    split at h
    · cases h
    · rename_i h1
      refine lex_name (by have := fun e => h1 (.inl e); omega) (by have := fun e => h1 (.inr (.inl e)); omega) ?_ (by simpa using h)
      apply Decidable.byContradiction
      intro e
      exact h1 (.inr (.inr (.inl e)))
  · have := words_like s (by simpa using h)
    exact lex_name this.1 this.2.1 this.2.2.1 this.2.2.2
theorem law_names (s : List UInt8) : Ok (base m) 4 [.str s] [] (.bool true) [] [] := by
  by_cases h : isNameP s = true ∨ words.contains s = true
  · have e := lex_one h
    refine k4 (viaS sok10 ?_)
    have hp : True := trivial
    repeat' first
      | refine s_seq ?_
      | refine s_skip ?_
      | (refine s_reg fun K hK => ?_; simp +contextual [S10, sp9, sp10, sp11, sp12, sp13, sp15, encF, encT, -List.contains_eq_mem, e, idx, hp]; refine hK _ ?_; clear hK K)
      | (refine s_regD fun K hK => ?_; simp +contextual [S10, sp9, sp10, sp11, sp12, sp13, sp15, encF, encT, -List.contains_eq_mem, e, idx, hp]; refine finD rfl ?_; simp; refine hK _ ?_; clear hK K)
      | (refine c_reg fun K hK => ?_; simp +contextual [S10, sp9, sp10, sp11, sp12, sp13, sp15, encF, encT, -List.contains_eq_mem, e, idx, hp]; refine hK _ ?_; clear hK K)
      | (refine c_regD fun K hK => ?_; simp +contextual [S10, sp9, sp10, sp11, sp12, sp13, sp15, encF, encT, -List.contains_eq_mem, e, idx, hp]; refine finD rfl ?_; simp; refine hK _ ?_; clear hK K)
      | (refine c_cond rfl (fun h => ?_) (fun h => ?_) <;> (replace hp := And.intro h hp; clear h; try simp only [Bool.eq_false_iff, ne_eq, Bool.and_eq_true, Bool.or_eq_true, Bool.not_eq_true', decide_eq_true_eq, Bool.false_eq_true, Bool.true_eq_false, Decidable.not_not, not_true_eq_false, not_false_eq_true, false_and, true_and] at hp))
      | (refine s_cond rfl (fun h => ?_) (fun h => ?_) <;> (replace hp := And.intro h hp; clear h; try simp only [Bool.eq_false_iff, ne_eq, Bool.and_eq_true, Bool.or_eq_true, Bool.not_eq_true', decide_eq_true_eq, Bool.false_eq_true, Bool.true_eq_false, Decidable.not_not, not_true_eq_false, not_false_eq_true, false_and, true_and] at hp))
      | refine s_block ?_
      | refine c_block ?_
      | refine c_skip ?_
      | refine s_ret ?_
      | refine c_ret ?_
      | refine c_exit ?_
      | refine s_exit ?_
      | refine leave_r ?_
      | refine next_r ?_
      | refine leave_n ?_
      | refine next_n ?_
      | refine next_e ?_
      | refine leave_eq ?_
      | refine leave_ne (by decide) ?_
      | refine hleave .ret _ (by simp) ?_
      | refine hleave (.exit _) _ (by simp) ?_
      | refine c_seq ?_

    rcases h with h | h <;> simp [EndA, h, -List.contains_eq_mem]
  · have h1 : isNameP s = false := by cases hh : isNameP s with | false => rfl | true => exact absurd (.inl hh) h
    have h2 : words.contains s = false := by cases hh : words.contains s with | false => rfl | true => exact absurd (.inr hh) h
    have hx : ∃ l c p, lexP s = (l, c, p) := ⟨_, _, _, rfl⟩
    obtain ⟨l, c, p, e⟩ := hx
    rcases l with _ | ⟨a, _ | ⟨b, r⟩⟩
    all_goals refine k4 (viaS sok10 ?_)
    all_goals
      have hp : True := trivial
      repeat' first
        | refine s_seq ?_
        | refine s_skip ?_
        | (refine s_reg fun K hK => ?_; simp +contextual [S10, sp9, sp10, sp11, sp12, sp13, sp15, encF, encT, -List.contains_eq_mem, e, h1, h2, idx, hp]; refine hK _ ?_; clear hK K)
        | (refine s_regD fun K hK => ?_; simp +contextual [S10, sp9, sp10, sp11, sp12, sp13, sp15, encF, encT, -List.contains_eq_mem, e, h1, h2, idx, hp]; refine finD rfl ?_; simp; refine hK _ ?_; clear hK K)
        | (refine c_reg fun K hK => ?_; simp +contextual [S10, sp9, sp10, sp11, sp12, sp13, sp15, encF, encT, -List.contains_eq_mem, e, h1, h2, idx, hp]; refine hK _ ?_; clear hK K)
        | (refine c_regD fun K hK => ?_; simp +contextual [S10, sp9, sp10, sp11, sp12, sp13, sp15, encF, encT, -List.contains_eq_mem, e, h1, h2, idx, hp]; refine finD rfl ?_; simp; refine hK _ ?_; clear hK K)
        | (refine c_cond rfl (fun h => ?_) (fun h => ?_) <;> (replace hp := And.intro h hp; clear h; try simp only [Bool.eq_false_iff, ne_eq, Bool.and_eq_true, Bool.or_eq_true, Bool.not_eq_true', decide_eq_true_eq, Bool.false_eq_true, Bool.true_eq_false, Decidable.not_not, not_true_eq_false, not_false_eq_true, false_and, true_and] at hp))
        | (refine s_cond rfl (fun h => ?_) (fun h => ?_) <;> (replace hp := And.intro h hp; clear h; try simp only [Bool.eq_false_iff, ne_eq, Bool.and_eq_true, Bool.or_eq_true, Bool.not_eq_true', decide_eq_true_eq, Bool.false_eq_true, Bool.true_eq_false, Decidable.not_not, not_true_eq_false, not_false_eq_true, false_and, true_and] at hp))
        | refine s_block ?_
        | refine c_block ?_
        | refine c_skip ?_
        | refine s_ret ?_
        | refine c_ret ?_
        | refine c_exit ?_
        | refine s_exit ?_
        | refine leave_r ?_
        | refine next_r ?_
        | refine leave_n ?_
        | refine next_n ?_
        | refine next_e ?_
        | refine leave_eq ?_
        | refine leave_ne (by decide) ?_
        | refine hleave .ret _ (by simp) ?_
        | refine hleave (.exit _) _ (by simp) ?_
        | refine c_seq ?_

    all_goals simp [EndA]
end Go.Proofs.Ytblmmaecklgbhaa
