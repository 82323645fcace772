/- A part of the proof of a law of this seat: no condition. -/
import Derived.Test.YtblmmaecklgbhaaL8
set_option linter.unusedSimpArgs false
set_option linter.unusedVariables false
set_option linter.unusedVariables false
set_option maxRecDepth 20000
namespace Go.Proofs.Ytblmmaecklgbhaa
open Go.Ax
def sp10 : Sp
  | [.str s], [] => some (.tup [.slice 3 ((lexP s).1.map encT), encF (lexP s).2.1 (lexP s).2.2], [], [])
  | _, _ => none
theorem fn10 {m : Int} : FnOk Try.prog (base m) 10 sp10 := by
  intro args objs r objs' news h
  unfold sp10 at h
  split at h
  · cases h; exact tokens_ok _
  · cases h
def sp11 : Sp
  | [.str s], [] => some (.tup [.slice 3 ((refP s).1.map encT), nV (refP s).2.1, nV (refP s).2.2], [], [])
  | _, _ => none
theorem fn11 {B : Heap} : FnOk Try.prog B 11 sp11 := by
  intro args objs r objs' news h
  unfold sp11 at h
  split at h
  · cases h; exact reftok_ok _
  · cases h
theorem ex_lex : lexP [97, 60, 61, 49, 48] = ([⟨1, [97], 0⟩, ⟨3, [60, 61], 1⟩, ⟨2, [49, 48], 3⟩], 0, 0) := by
  have e0 : lexP [97, 60, 61, 49, 48] = lexA [97, 60, 61, 49, 48] 0 [] := by unfold lexP; rw [if_neg (by decide)]
  have n0 : nextM [97, 60, 61, 49, 48] 0 = (⟨1, [97], 0⟩, 0, 0) := by decide
  have n1 : nextM [97, 60, 61, 49, 48] 1 = (⟨3, [60, 61], 1⟩, 0, 0) := by decide
  have n3 : nextM [97, 60, 61, 49, 48] 3 = (⟨2, [49, 48], 3⟩, 0, 0) := by decide
  rw [e0, lexA.eq_1, dif_pos (by decide), if_neg (by decide), if_neg (by decide), n0, if_pos rfl]
  simp only [List.length_cons, List.length_nil]
  rw [show max (0 + 1) (0 + (0 + 1)) = 1 from rfl, lexA.eq_1, dif_pos (by decide), if_neg (by decide), if_neg (by decide), n1, if_pos rfl]
  simp only [List.length_cons, List.length_nil]
  rw [show max (1 + 1) (1 + (0 + 1 + 1)) = 3 from rfl, lexA.eq_1, dif_pos (by decide), if_neg (by decide), if_neg (by decide), n3, if_pos rfl]
  simp only [List.length_cons, List.length_nil]
  rw [show max (3 + 1) (3 + (0 + 1 + 1)) = 5 from rfl, lexA.eq_1, dif_neg (by decide)]
  rfl
theorem ex_name : isNameP [97] = true := by decide
theorem ex_word : words.contains [99, 108, 97, 115, 115] = true := by decide
def S9 : List (FuncId × Sp) := [(10, sp10), (13, sp13), (15, sp15)]
theorem sok9 {m : Int} : SOk Try.prog (base m) S9 := .cons fn10 (.cons fn13 (.cons fn15 .nil))
def sp9 : Sp
  | [], [] => some (.bool true, [], [])
  | _, _ => none
variable {m : Int}
theorem fn9 : FnOk Try.prog (base m) 9 sp9 := by
  intro args objs r objs' news h
  unfold sp9 at h
  split at h
  · cases h
    refine k9 (viaS sok9 ?_)
    have hp : True := trivial
    repeat' first
      | refine s_seq ?_
      | refine s_skip ?_
      | (refine s_reg fun K hK => ?_; simp +contextual [S9, sp10, sp13, sp15, ex_lex, encT, encF, ex_name, ex_word, idx, -List.contains_eq_mem, hp]; refine hK _ ?_; clear hK K)
      | (refine s_regD fun K hK => ?_; simp +contextual [S9, sp10, sp13, sp15, ex_lex, encT, encF, ex_name, ex_word, idx, -List.contains_eq_mem, hp]; refine finD rfl ?_; simp; refine hK _ ?_; clear hK K)
      | (refine c_reg fun K hK => ?_; simp +contextual [S9, sp10, sp13, sp15, ex_lex, encT, encF, ex_name, ex_word, idx, -List.contains_eq_mem, hp]; refine hK _ ?_; clear hK K)
      | (refine c_regD fun K hK => ?_; simp +contextual [S9, sp10, sp13, sp15, ex_lex, encT, encF, ex_name, ex_word, idx, -List.contains_eq_mem, hp]; refine finD rfl ?_; simp; refine hK _ ?_; clear hK K)
      | (refine c_cond rfl (fun h => ?_) (fun h => ?_) <;> (replace hp := And.intro h hp; clear h; try simp only [Bool.eq_false_iff, ne_eq, Bool.and_eq_true, Bool.or_eq_true, Bool.not_eq_true', decide_eq_true_eq, Bool.false_eq_true, Bool.true_eq_false, Decidable.not_not, not_true_eq_false, not_false_eq_true, false_and, true_and] at hp))
      | (refine s_cond rfl (fun h => ?_) (fun h => ?_) <;> (replace hp := And.intro h hp; clear h; try simp only [Bool.eq_false_iff, ne_eq, Bool.and_eq_true, Bool.or_eq_true, Bool.not_eq_true', decide_eq_true_eq, Bool.false_eq_true, Bool.true_eq_false, Decidable.not_not, not_true_eq_false, not_false_eq_true, false_and, true_and] at hp))
      | refine s_block ?_
      | refine c_block ?_
      | refine c_skip ?_
      | refine s_ret ?_
      | refine c_ret ?_
      | refine c_exit ?_
      | refine s_exit ?_
      | refine leave_r ?_
      | refine next_r ?_
      | refine leave_n ?_
      | refine next_n ?_
      | refine next_e ?_
      | refine leave_eq ?_
      | refine leave_ne (by decide) ?_
      | refine hleave .ret _ (by simp) ?_
      | refine hleave (.exit _) _ (by simp) ?_
      | refine c_seq ?_
    simp [EndA]
  · cases h

def S10 : List (FuncId × Sp) := [(9, sp9), (10, sp10), (11, sp11), (12, sp12), (13, sp13), (14, sp14), (15, sp15), (16, sp16)]
theorem sok10 {m : Int} : SOk Try.prog (base m) S10 := .cons fn9 (.cons fn10 (.cons fn11 (.cons fn12 (.cons fn13 (.cons fn14 (.cons fn15 (.cons fn16 .nil)))))))
theorem lexA_len {s : List UInt8} : ∀ (n i : Nat) (acc : List Tok), s.length - i ≤ n → i ≤ s.length → (lexA s i acc).1.length ≤ acc.length + (s.length - i) := by
  intro n
  induction n with
  | zero => intro i acc h hi; rw [lexA.eq_1, dif_neg (by omega)]; simp
  | succ n ih =>
    intro i acc h hi
    rw [lexA.eq_1]
    split
    · rename_i h1
      split
      · have := ih (i + 1) acc (by omega) (by omega); omega
      · split
        · have := runN_lt (ofI notEndI) hi
          have := ih (max (i + 1) (runN (ofI notEndI) s i)) acc (by omega) (by omega); omega
        · split
          · rename_i h4
            have hp := nextM_pos h1 h4
            have := ih (max (i + 1) (i + (nextM s i).1.text.length)) (acc ++ [(nextM s i).1]) (by omega) (by omega)
            simp only [List.length_append, List.length_singleton] at this
            omega
          · simp
    · simp
theorem lexP_len (s : List UInt8) : (lexP s).1.length ≤ 65536 := by
  unfold lexP
  split
  · simp
  · have := lexA_len (s := s) s.length 0 [] (by omega) (by omega)
    simp only [List.length_nil] at this
    omega
theorem law_tokens (s : List UInt8) : Ok (base m) 3 [.str s] [] (.bool true) [] [] := by
  have hl := lexP_len s
  have hl2 : (refP s).1.length < 100000000 := by rw [← same_all]; omega
  refine k3 (viaS sok10 ?_)
  have hp : True := trivial
  repeat' first
    | refine s_seq ?_
    | refine s_skip ?_
    | (refine s_reg fun K hK => ?_; simp +contextual [S10, sp9, sp10, sp11, sp12, encF, same_all, hl2, hp]; refine hK _ ?_; clear hK K)
    | (refine s_regD fun K hK => ?_; simp +contextual [S10, sp9, sp10, sp11, sp12, encF, same_all, hl2, hp]; refine finD rfl ?_; simp; refine hK _ ?_; clear hK K)
    | (refine c_reg fun K hK => ?_; simp +contextual [S10, sp9, sp10, sp11, sp12, encF, same_all, hl2, hp]; refine hK _ ?_; clear hK K)
    | (refine c_regD fun K hK => ?_; simp +contextual [S10, sp9, sp10, sp11, sp12, encF, same_all, hl2, hp]; refine finD rfl ?_; simp; refine hK _ ?_; clear hK K)
    | (refine c_cond rfl (fun h => ?_) (fun h => ?_) <;> (replace hp := And.intro h hp; clear h; try simp only [Bool.eq_false_iff, ne_eq, Bool.and_eq_true, Bool.or_eq_true, Bool.not_eq_true', decide_eq_true_eq, Bool.false_eq_true, Bool.true_eq_false, Decidable.not_not, not_true_eq_false, not_false_eq_true, false_and, true_and] at hp))
    | (refine s_cond rfl (fun h => ?_) (fun h => ?_) <;> (replace hp := And.intro h hp; clear h; try simp only [Bool.eq_false_iff, ne_eq, Bool.and_eq_true, Bool.or_eq_true, Bool.not_eq_true', decide_eq_true_eq, Bool.false_eq_true, Bool.true_eq_false, Decidable.not_not, not_true_eq_false, not_false_eq_true, false_and, true_and] at hp))
    | refine s_block ?_
    | refine c_block ?_
    | refine c_skip ?_
    | refine s_ret ?_
    | refine c_ret ?_
    | refine c_exit ?_
    | refine s_exit ?_
    | refine leave_r ?_
    | refine next_r ?_
    | refine leave_n ?_
    | refine next_n ?_
    | refine next_e ?_
    | refine leave_eq ?_
    | refine leave_ne (by decide) ?_
    | refine hleave .ret _ (by simp) ?_
    | refine hleave (.exit _) _ (by simp) ?_
    | refine c_seq ?_

  all_goals simp [EndA]
end Go.Proofs.Ytblmmaecklgbhaa
