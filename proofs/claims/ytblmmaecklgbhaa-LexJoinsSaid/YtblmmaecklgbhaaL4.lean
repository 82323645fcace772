/- A part of the proof of a law of this seat: no condition. -/
import Derived.Test.YtblmmaecklgbhaaL3
set_option linter.unusedSimpArgs false
set_option linter.unusedVariables false
set_option maxRecDepth 20000
namespace Go.Proofs.Ytblmmaecklgbhaa
open Go.Ax
variable {B : Heap}
def kindI (c : Int) : Int := if isLetterI c then 1 else if isDigitI c then 2 else if (decide (c = 32) || (decide (c = 9) || (decide (c = 10) || decide (c = 13)))) then 3 else 0
def sp23 : Sp
  | [.int .u8 c], [] => some (.int .i64 (kindI c), [], [])
  | _, _ => none
theorem fn23 : FnOk Try.prog B 23 sp23 := by
  intro args objs r objs' news h
  unfold sp23 at h
  split at h
  · cases h
    refine k23 ?_
    have hp : True := trivial
    repeat' first
      | refine s_seq ?_
      | refine s_skip ?_
      | (refine s_reg fun K hK => ?_; simp +contextual [hp]; refine hK _ ?_; clear hK K)
      | (refine s_regD fun K hK => ?_; simp +contextual [hp]; refine finD rfl ?_; simp; refine hK _ ?_; clear hK K)
      | (refine c_reg fun K hK => ?_; simp +contextual [hp]; refine hK _ ?_; clear hK K)
      | (refine c_regD fun K hK => ?_; simp +contextual [hp]; refine finD rfl ?_; simp; refine hK _ ?_; clear hK K)
      | (refine c_cond rfl (fun h => ?_) (fun h => ?_) <;> (replace hp := And.intro h hp; clear h; try simp only [Bool.eq_false_iff, ne_eq, Bool.and_eq_true, Bool.or_eq_true, Bool.not_eq_true', decide_eq_true_eq, Decidable.not_not, not_true_eq_false, false_and, true_and] at hp))
      | (refine s_cond rfl (fun h => ?_) (fun h => ?_) <;> (replace hp := And.intro h hp; clear h; try simp only [Bool.eq_false_iff, ne_eq, Bool.and_eq_true, Bool.or_eq_true, Bool.not_eq_true', decide_eq_true_eq, Decidable.not_not, not_true_eq_false, false_and, true_and] at hp))
      | refine s_block ?_
      | refine c_block ?_
      | refine c_skip ?_
      | refine s_ret ?_
      | refine c_ret ?_
      | refine c_exit ?_
      | refine s_exit ?_
      | refine leave_r ?_
      | refine next_r ?_
      | refine leave_n ?_
      | refine next_n ?_
      | refine next_e ?_
      | refine leave_eq ?_
      | refine leave_ne (by decide) ?_
      | refine hleave .ret _ (by simp) ?_
      | refine hleave (.exit _) _ (by simp) ?_
      | refine c_seq ?_
    all_goals rename_i c
    all_goals simp [mrg, cond_eq_ite] at hp
    all_goals simp [EndA, kindI, isLetterI, isDigitI]
    all_goals grind
  · cases h
def strsOf : List V → Option (List (List UInt8))
  | [] => some []
  | .str s :: r => (strsOf r).map (s :: ·)
  | _ :: _ => none
@[simp] theorem strsOf_nil : strsOf [] = some [] := rfl
@[simp] theorem strsOf_cons (s : List UInt8) (r : List V) : strsOf (.str s :: r) = (strsOf r).map (s :: ·) := rfl
@[simp] theorem strsOf_map (l : List (List UInt8)) : strsOf (l.map .str) = some l := by induction l <;> simp_all
theorem strsOf_some : ∀ {xs : List V} {l : List (List UInt8)}, strsOf xs = some l → xs = l.map .str
  | [], l, h => by simp at h; subst h; rfl
  | .str s :: r, l, h => by
    simp only [strsOf_cons, Option.map_eq_some_iff] at h
    obtain ⟨l', h1, rfl⟩ := h
    rw [strsOf_some h1]; rfl
theorem drop_nth {α : Type} [Inhabited α] {l : List α} {n : Nat} (h : n < l.length) : l.drop n = nth l n :: l.drop (n + 1) := by
  rw [List.drop_eq_getElem_cons h]; simp [nth, h]
def sp26 : Sp
  | [.slice 1 xs, .str s], [] => match strsOf xs with
    | some l => if l.length < 100000000 then some (.bool (l.contains s), [], []) else none
    | none => none
  | _, _ => none
theorem in_ok (l : List (List UInt8)) (s : List UInt8) (hl : l.length < 100000000) : Ok B 26 [.slice 1 (l.map .str), .str s] [] (.bool (l.contains s)) [] [] := by
  refine k26 ?_
  have hp : True := trivial
  repeat' first
    | refine s_seq ?_
    | refine s_skip ?_
    | (refine s_reg fun K hK => ?_; simp +contextual [hp]; refine hK _ ?_; clear hK K)
    | (refine s_regD fun K hK => ?_; simp +contextual [hp]; refine finD rfl ?_; simp; refine hK _ ?_; clear hK K)
    | (refine c_reg fun K hK => ?_; simp +contextual [hp]; refine hK _ ?_; clear hK K)
    | (refine c_regD fun K hK => ?_; simp +contextual [hp]; refine finD rfl ?_; simp; refine hK _ ?_; clear hK K)
    | (refine c_cond rfl (fun h => ?_) (fun h => ?_) <;> (replace hp := And.intro h hp; clear h; try simp only [Bool.eq_false_iff, ne_eq, Bool.and_eq_true, Bool.or_eq_true, Bool.not_eq_true', decide_eq_true_eq, Decidable.not_not, not_true_eq_false, false_and, true_and] at hp))
    | (refine s_cond rfl (fun h => ?_) (fun h => ?_) <;> (replace hp := And.intro h hp; clear h; try simp only [Bool.eq_false_iff, ne_eq, Bool.and_eq_true, Bool.or_eq_true, Bool.not_eq_true', decide_eq_true_eq, Decidable.not_not, not_true_eq_false, false_and, true_and] at hp))
    | refine s_block ?_
    | refine c_block ?_
    | refine c_skip ?_
    | refine s_ret ?_
    | refine c_ret ?_
    | refine c_exit ?_
    | refine s_exit ?_
    | refine leave_r ?_
    | refine next_r ?_
    | refine leave_n ?_
    | refine next_n ?_
    | refine next_e ?_
    | refine leave_eq ?_
    | refine leave_ne (by decide) ?_
    | refine hleave .ret _ (by simp) ?_
    | refine hleave (.exit _) _ (by simp) ?_
    | refine c_seq ?_

  refine c_loopI (fun (n : Nat) => (⟨[(0, .slice 1 (l.map .str)), (1, .str s), (5, nV n)], []⟩ : St)) (fun n => n ≤ l.length ∧ (l.drop n).contains s = l.contains s) (fun n => l.length - n) 0 (by simp) ⟨by simp, by simp⟩ (fun n K' hn hnext hleave => ?_)
  have hp : True := trivial
  repeat' first
    | refine s_seq ?_
    | refine s_skip ?_
    | (refine s_reg fun K hK => ?_; simp +contextual [hp]; refine hK _ ?_; clear hK K)
    | (refine s_regD fun K hK => ?_; simp +contextual [hp]; refine finD rfl ?_; simp; refine hK _ ?_; clear hK K)
    | (refine c_reg fun K hK => ?_; simp +contextual [hp]; refine hK _ ?_; clear hK K)
    | (refine c_regD fun K hK => ?_; simp +contextual [hp]; refine finD rfl ?_; simp; refine hK _ ?_; clear hK K)
    | (refine c_cond rfl (fun h => ?_) (fun h => ?_) <;> (replace hp := And.intro h hp; clear h; try simp only [Bool.eq_false_iff, ne_eq, Bool.and_eq_true, Bool.or_eq_true, Bool.not_eq_true', decide_eq_true_eq, Decidable.not_not, not_true_eq_false, false_and, true_and] at hp))
    | (refine s_cond rfl (fun h => ?_) (fun h => ?_) <;> (replace hp := And.intro h hp; clear h; try simp only [Bool.eq_false_iff, ne_eq, Bool.and_eq_true, Bool.or_eq_true, Bool.not_eq_true', decide_eq_true_eq, Decidable.not_not, not_true_eq_false, false_and, true_and] at hp))
    | refine s_block ?_
    | refine c_block ?_
    | refine c_skip ?_
    | refine s_ret ?_
    | refine c_ret ?_
    | refine c_exit ?_
    | refine s_exit ?_
    | refine leave_r ?_
    | refine next_r ?_
    | refine leave_n ?_
    | refine next_n ?_
    | refine next_e ?_
    | refine leave_eq ?_
    | refine leave_ne (by decide) ?_
    | refine hleave .ret _ (by simp) ?_
    | refine hleave (.exit _) _ (by simp) ?_
    | refine c_seq ?_

  · have e : l.contains s = true := by rw [← hn.2, drop_nth hp.2.1]; simp [hp.1]
    simp [EndA]
    simpa using e
  · refine hnext _ (n + 1) (by simp [wrapN (n := (n : Int) + 1) (m := n + 1) (by omega) (by omega)]) ⟨by have := hp.2.1; omega, ?_⟩ (by have := hp.2.1; omega)
    rw [← hn.2, drop_nth hp.2.1, List.contains_cons]
    have : (s == nth l n) = false := by simpa using fun e => hp.1 e.symm
    rw [this, Bool.false_or]
  · have e : l.contains s = false := by rw [← hn.2, List.drop_eq_nil_of_le (by omega)]; simp
    simp [EndA]
    simpa using e
theorem fn26 : FnOk Try.prog B 26 sp26 := by
  intro args objs r objs' news h
  unfold sp26 at h
  split at h
  · split at h
    · rename_i l hl
      split at h
      · cases h
        rw [strsOf_some hl]
        exact in_ok _ _ ‹_›
      · cases h
    · cases h
  · cases h
def words : List (List UInt8) := [[99, 108, 97, 115, 115], [105, 110, 116, 101, 114, 102, 97, 99, 101], [101, 120, 116, 101, 110, 100, 115], [105, 109, 112, 108, 101, 109, 101, 110, 116, 115], [102, 105, 110, 97, 108], [118, 97, 114], [105, 110, 118, 97, 114, 105, 97, 110, 116], [110, 101, 119], [115, 117, 112, 101, 114], [100, 101, 102], [118, 111, 105, 100], [105, 110, 116], [98, 111, 111, 108], [108, 101, 116], [105, 102], [101, 108, 115, 101], [119, 104, 105, 108, 101], [114, 101, 116, 117, 114, 110], [97, 115, 115, 101, 114, 116], [112, 114, 105, 110, 116], [116, 114, 117, 101], [102, 97, 108, 115, 101], [110, 117, 108, 108], [116, 104, 105, 115], [108, 105, 115, 116], [108, 101, 110], [114, 101, 97, 100], [109, 97, 105, 110]]
def sp27 : Sp
  | [], [] => some (.own 1 (words.map .str), [], [])
  | _, _ => none
def sp13 : Sp
  | [.str s], [] => some (.bool (words.contains s), [], [])
  | _, _ => none
abbrev sp14 : Sp := sp13
theorem fn27 : FnOk Try.prog B 27 sp27 := by
  intro args objs r objs' news h
  unfold sp27 at h
  split at h
  · cases h
    refine k27 ?_
    have hp : True := trivial
    repeat' first
      | refine s_seq ?_
      | refine s_skip ?_
      | (refine s_reg fun K hK => ?_; simp +contextual [hp]; refine hK _ ?_; clear hK K)
      | (refine s_regD fun K hK => ?_; simp +contextual [hp]; refine finD rfl ?_; simp; refine hK _ ?_; clear hK K)
      | (refine c_reg fun K hK => ?_; simp +contextual [hp]; refine hK _ ?_; clear hK K)
      | (refine c_regD fun K hK => ?_; simp +contextual [hp]; refine finD rfl ?_; simp; refine hK _ ?_; clear hK K)
      | (refine c_cond rfl (fun h => ?_) (fun h => ?_) <;> (replace hp := And.intro h hp; clear h; try simp only [Bool.eq_false_iff, ne_eq, Bool.and_eq_true, Bool.or_eq_true, Bool.not_eq_true', decide_eq_true_eq, Decidable.not_not, not_true_eq_false, false_and, true_and] at hp))
      | (refine s_cond rfl (fun h => ?_) (fun h => ?_) <;> (replace hp := And.intro h hp; clear h; try simp only [Bool.eq_false_iff, ne_eq, Bool.and_eq_true, Bool.or_eq_true, Bool.not_eq_true', decide_eq_true_eq, Decidable.not_not, not_true_eq_false, false_and, true_and] at hp))
      | refine s_block ?_
      | refine c_block ?_
      | refine c_skip ?_
      | refine s_ret ?_
      | refine c_ret ?_
      | refine c_exit ?_
      | refine s_exit ?_
      | refine leave_r ?_
      | refine next_r ?_
      | refine leave_n ?_
      | refine next_n ?_
      | refine next_e ?_
      | refine leave_eq ?_
      | refine leave_ne (by decide) ?_
      | refine hleave .ret _ (by simp) ?_
      | refine hleave (.exit _) _ (by simp) ?_
      | refine c_seq ?_
    simp [EndA, words]
  · cases h
theorem wl : (words.length < 100000000) = True := by simp only [eq_iff_iff, iff_true]; decide
theorem fn14 : FnOk Try.prog B 14 sp14 := by
  intro args objs r objs' news h
  unfold sp14 sp13 at h
  split at h
  · cases h
    refine k14 (viaS (.cons fn27 (.cons fn26 .nil)) ?_)
    have hp : True := trivial
    repeat' first
      | refine s_seq ?_
      | refine s_skip ?_
      | (refine s_reg fun K hK => ?_; simp +contextual [lookS, sp27, sp26, wl, hp]; refine hK _ ?_; clear hK K)
      | (refine s_regD fun K hK => ?_; simp +contextual [lookS, sp27, sp26, wl, hp]; refine finD rfl ?_; simp; refine hK _ ?_; clear hK K)
      | (refine c_reg fun K hK => ?_; simp +contextual [lookS, sp27, sp26, wl, hp]; refine hK _ ?_; clear hK K)
      | (refine c_regD fun K hK => ?_; simp +contextual [lookS, sp27, sp26, wl, hp]; refine finD rfl ?_; simp; refine hK _ ?_; clear hK K)
      | (refine c_cond rfl (fun h => ?_) (fun h => ?_) <;> (replace hp := And.intro h hp; clear h; try simp only [Bool.eq_false_iff, ne_eq, Bool.and_eq_true, Bool.or_eq_true, Bool.not_eq_true', decide_eq_true_eq, Decidable.not_not, not_true_eq_false, false_and, true_and] at hp))
      | (refine s_cond rfl (fun h => ?_) (fun h => ?_) <;> (replace hp := And.intro h hp; clear h; try simp only [Bool.eq_false_iff, ne_eq, Bool.and_eq_true, Bool.or_eq_true, Bool.not_eq_true', decide_eq_true_eq, Decidable.not_not, not_true_eq_false, false_and, true_and] at hp))
      | refine s_block ?_
      | refine c_block ?_
      | refine c_skip ?_
      | refine s_ret ?_
      | refine c_ret ?_
      | refine c_exit ?_
      | refine s_exit ?_
      | refine leave_r ?_
      | refine next_r ?_
      | refine leave_n ?_
      | refine next_n ?_
      | refine next_e ?_
      | refine leave_eq ?_
      | refine leave_ne (by decide) ?_
      | refine hleave .ret _ (by simp) ?_
      | refine hleave (.exit _) _ (by simp) ?_
      | refine c_seq ?_
    simp [EndA]
  · cases h
theorem fn13 : FnOk Try.prog B 13 sp13 := by
  intro args objs r objs' news h
  unfold sp13 at h
  split at h
  · cases h
    refine k13 ?_
    have hp : True := trivial
    repeat' first
      | refine s_seq ?_
      | refine s_skip ?_
      | (refine s_reg fun K hK => ?_; simp +contextual [hp]; refine hK _ ?_; clear hK K)
      | (refine s_regD fun K hK => ?_; simp +contextual [hp]; refine finD rfl ?_; simp; refine hK _ ?_; clear hK K)
      | (refine c_reg fun K hK => ?_; simp +contextual [hp]; refine hK _ ?_; clear hK K)
      | (refine c_regD fun K hK => ?_; simp +contextual [hp]; refine finD rfl ?_; simp; refine hK _ ?_; clear hK K)
      | (refine c_cond rfl (fun h => ?_) (fun h => ?_) <;> (replace hp := And.intro h hp; clear h; try simp only [Bool.eq_false_iff, ne_eq, Bool.and_eq_true, Bool.or_eq_true, Bool.not_eq_true', decide_eq_true_eq, Decidable.not_not, not_true_eq_false, false_and, true_and] at hp))
      | (refine s_cond rfl (fun h => ?_) (fun h => ?_) <;> (replace hp := And.intro h hp; clear h; try simp only [Bool.eq_false_iff, ne_eq, Bool.and_eq_true, Bool.or_eq_true, Bool.not_eq_true', decide_eq_true_eq, Decidable.not_not, not_true_eq_false, false_and, true_and] at hp))
      | refine s_block ?_
      | refine c_block ?_
      | refine c_skip ?_
      | refine s_ret ?_
      | refine c_ret ?_
      | refine c_exit ?_
      | refine s_exit ?_
      | refine leave_r ?_
      | refine next_r ?_
      | refine leave_n ?_
      | refine next_n ?_
      | refine next_e ?_
      | refine leave_eq ?_
      | refine leave_ne (by decide) ?_
      | refine hleave .ret _ (by simp) ?_
      | refine hleave (.exit _) _ (by simp) ?_
      | refine c_seq ?_
    all_goals first | exact absurd hp.2.1 hp.1 | (simp [EndA, words, hp]; done)
  · cases h

end Go.Proofs.Ytblmmaecklgbhaa
