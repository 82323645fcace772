/- A part of the proof of a law of this seat: no condition. -/
import Derived.Test.YtblmmaecklgbhaaL6
set_option linter.unusedSimpArgs false
set_option linter.unusedVariables false
set_option maxRecDepth 20000
namespace Go.Proofs.Ytblmmaecklgbhaa
open Go.Ax
variable {B : Heap}
def toksOf : List V → Option (List Tok)
  | [] => some []
  | .agg [.int .i64 (.ofNat k), .str t, .int .i64 (.ofNat p)] :: r => (toksOf r).map (⟨k, t, p⟩ :: ·)
  | _ :: _ => none
@[simp] theorem toksOf_map (l : List Tok) : toksOf (l.map encT) = some l := by
  induction l with
  | nil => rfl
  | cons t r ih => simp only [List.map_cons, encT, nV, toksOf] at *; show (toksOf (r.map encT)).map _ = _; rw [ih]; rfl
theorem toksOf_some : ∀ {xs : List V} {l : List Tok}, toksOf xs = some l → xs = l.map encT := by
  intro xs
  fun_induction toksOf xs with
  | case1 => intro l h; simp at h; subst h; rfl
  | case2 k t p r ih =>
    intro l h
    rw [Option.map_eq_some_iff] at h
    obtain ⟨l', h1, rfl⟩ := h
    rw [ih h1]; rfl
  | case3 => intro l h; cases h
def sp12 : Sp
  | [.slice 3 xs, .slice 3 ys], [] => match toksOf xs, toksOf ys with
    | some a, some b => if a.length < 100000000 then some (.bool (decide (a = b)), [], []) else none
    | _, _ => none
  | _, _ => none
theorem tok_eq (a b : Tok) : (a = b) ↔ (a.kind : Int) = b.kind ∧ a.text = b.text ∧ (a.pos : Int) = b.pos := by
  cases a; cases b; simp [Int.natCast_inj]
theorem same_ok (a b : List Tok) (ha : a.length < 100000000) : Ok B 12 [.slice 3 (a.map encT), .slice 3 (b.map encT)] [] (.bool (decide (a = b))) [] [] := by
  by_cases hl : a.length = b.length
  · refine k12 ?_
    have hp : True := trivial
    repeat' first
      | refine s_seq ?_
      | refine s_skip ?_
      | (refine s_reg fun K hK => ?_; simp +contextual [hl, hp]; refine hK _ ?_; clear hK K)
      | (refine s_regD fun K hK => ?_; simp +contextual [hl, hp]; refine finD rfl ?_; simp; refine hK _ ?_; clear hK K)
      | (refine c_reg fun K hK => ?_; simp +contextual [hl, hp]; refine hK _ ?_; clear hK K)
      | (refine c_regD fun K hK => ?_; simp +contextual [hl, hp]; refine finD rfl ?_; simp; refine hK _ ?_; clear hK K)
      | (refine c_cond rfl (fun h => ?_) (fun h => ?_) <;> (replace hp := And.intro h hp; clear h; try simp only [Bool.eq_false_iff, ne_eq, Bool.and_eq_true, Bool.or_eq_true, Bool.not_eq_true', decide_eq_true_eq, Bool.false_eq_true, Bool.true_eq_false, Decidable.not_not, not_true_eq_false, not_false_eq_true, false_and, true_and] at hp))
      | (refine s_cond rfl (fun h => ?_) (fun h => ?_) <;> (replace hp := And.intro h hp; clear h; try simp only [Bool.eq_false_iff, ne_eq, Bool.and_eq_true, Bool.or_eq_true, Bool.not_eq_true', decide_eq_true_eq, Bool.false_eq_true, Bool.true_eq_false, Decidable.not_not, not_true_eq_false, not_false_eq_true, false_and, true_and] at hp))
      | refine s_block ?_
      | refine c_block ?_
      | refine c_skip ?_
      | refine s_ret ?_
      | refine c_ret ?_
      | refine c_exit ?_
      | refine s_exit ?_
      | refine leave_r ?_
      | refine next_r ?_
      | refine leave_n ?_
      | refine next_n ?_
      | refine next_e ?_
      | refine leave_eq ?_
      | refine leave_ne (by decide) ?_
      | refine hleave .ret _ (by simp) ?_
      | refine hleave (.exit _) _ (by simp) ?_
      | refine c_seq ?_

    refine c_loopI (fun (n : Nat) => (⟨[(0, .slice 3 (a.map encT)), (1, .slice 3 (b.map encT)), (5, nV n)], []⟩ : St)) (fun n => n ≤ b.length ∧ (a.drop n = b.drop n ↔ a = b)) (fun n => b.length - n) 0 (by simp) ⟨by simp, by simp⟩ (fun n K' hn hnext hleave => ?_)
    obtain ⟨hn1, hn2⟩ := hn
    have hla : n < b.length → n < a.length := fun h => by omega
    repeat' first
      | refine s_seq ?_
      | refine s_skip ?_
      | (refine s_reg fun K hK => ?_; simp +contextual [hl, encT, hla, hp]; refine hK _ ?_; clear hK K)
      | (refine s_regD fun K hK => ?_; simp +contextual [hl, encT, hla, hp]; refine finD rfl ?_; simp; refine hK _ ?_; clear hK K)
      | (refine c_reg fun K hK => ?_; simp +contextual [hl, encT, hla, hp]; refine hK _ ?_; clear hK K)
      | (refine c_regD fun K hK => ?_; simp +contextual [hl, encT, hla, hp]; refine finD rfl ?_; simp; refine hK _ ?_; clear hK K)
      | (refine c_cond rfl (fun h => ?_) (fun h => ?_) <;> (replace hp := And.intro h hp; clear h; try simp only [Bool.eq_false_iff, ne_eq, Bool.and_eq_true, Bool.or_eq_true, Bool.not_eq_true', decide_eq_true_eq, Bool.false_eq_true, Bool.true_eq_false, Decidable.not_not, not_true_eq_false, not_false_eq_true, false_and, true_and] at hp))
      | (refine s_cond rfl (fun h => ?_) (fun h => ?_) <;> (replace hp := And.intro h hp; clear h; try simp only [Bool.eq_false_iff, ne_eq, Bool.and_eq_true, Bool.or_eq_true, Bool.not_eq_true', decide_eq_true_eq, Bool.false_eq_true, Bool.true_eq_false, Decidable.not_not, not_true_eq_false, not_false_eq_true, false_and, true_and] at hp))
      | refine s_block ?_
      | refine c_block ?_
      | refine c_skip ?_
      | refine s_ret ?_
      | refine c_ret ?_
      | refine c_exit ?_
      | refine s_exit ?_
      | refine leave_r ?_
      | refine next_r ?_
      | refine leave_n ?_
      | refine next_n ?_
      | refine next_e ?_
      | refine leave_eq ?_
      | refine leave_ne (by decide) ?_
      | refine hleave .ret _ (by simp) ?_
      | refine hleave (.exit _) _ (by simp) ?_
      | refine c_seq ?_

    · have e : decide (a = b) = false := by
        simp only [decide_eq_false_iff_not]
        intro h
        have h1 : nth a n = nth b n := by rw [h]
        rw [h1] at hp
        simp at hp
      simp [EndA, e]
    · refine hnext _ (n + 1) (by simp [encT, wrapN (n := (n : Int) + 1) (m := n + 1) (by omega) (by omega)]) ⟨by have := hp.2.1; omega, ?_⟩ (by have := hp.2.1; omega)
      have h1 : nth a n = nth b n := by
        rw [tok_eq]
        have := hp.1
        refine ⟨?_, ?_, ?_⟩ <;> (apply Decidable.byContradiction; intro h; exact this (by simp [h]))
      rw [← hn2, drop_nth (hla hp.2.1), drop_nth hp.2.1, h1]
      simp
    · have e : decide (a = b) = true := by
        simp only [decide_eq_true_eq]
        rw [← hn2, List.drop_eq_nil_of_le (by omega), List.drop_eq_nil_of_le (by omega)]
      simp [EndA, e]
  · have e : decide (a = b) = false := by simp; intro h; exact hl (by rw [h])
    rw [e]
    have hl2 : ¬ (a.length : Int) = b.length := by omega
    refine k12 ?_
    have hp : True := trivial
    repeat' first
      | refine s_seq ?_
      | refine s_skip ?_
      | (refine s_reg fun K hK => ?_; simp +contextual [hl2, hl, hp]; refine hK _ ?_; clear hK K)
      | (refine s_regD fun K hK => ?_; simp +contextual [hl2, hl, hp]; refine finD rfl ?_; simp; refine hK _ ?_; clear hK K)
      | (refine c_reg fun K hK => ?_; simp +contextual [hl2, hl, hp]; refine hK _ ?_; clear hK K)
      | (refine c_regD fun K hK => ?_; simp +contextual [hl2, hl, hp]; refine finD rfl ?_; simp; refine hK _ ?_; clear hK K)
      | (refine c_cond rfl (fun h => ?_) (fun h => ?_) <;> (replace hp := And.intro h hp; clear h; try simp only [Bool.eq_false_iff, ne_eq, Bool.and_eq_true, Bool.or_eq_true, Bool.not_eq_true', decide_eq_true_eq, Bool.false_eq_true, Bool.true_eq_false, Decidable.not_not, not_true_eq_false, not_false_eq_true, false_and, true_and] at hp))
      | (refine s_cond rfl (fun h => ?_) (fun h => ?_) <;> (replace hp := And.intro h hp; clear h; try simp only [Bool.eq_false_iff, ne_eq, Bool.and_eq_true, Bool.or_eq_true, Bool.not_eq_true', decide_eq_true_eq, Bool.false_eq_true, Bool.true_eq_false, Decidable.not_not, not_true_eq_false, not_false_eq_true, false_and, true_and] at hp))
      | refine s_block ?_
      | refine c_block ?_
      | refine c_skip ?_
      | refine s_ret ?_
      | refine c_ret ?_
      | refine c_exit ?_
      | refine s_exit ?_
      | refine leave_r ?_
      | refine next_r ?_
      | refine leave_n ?_
      | refine next_n ?_
      | refine next_e ?_
      | refine leave_eq ?_
      | refine leave_ne (by decide) ?_
      | refine hleave .ret _ (by simp) ?_
      | refine hleave (.exit _) _ (by simp) ?_
      | refine c_seq ?_

    simp [EndA]
theorem fn12 : FnOk Try.prog B 12 sp12 := by
  intro args objs r objs' news h
  unfold sp12 at h
  split at h
  · split at h
    · rename_i h1 h2
      split at h
      · cases h
        rw [toksOf_some h1, toksOf_some h2]
        exact same_ok _ _ ‹_›
      · cases h
    · cases h
  · cases h
def isNameP (s : List UInt8) : Bool := if ((s.length : Int) = 0 ∨ (40 : Int) < s.length ∨ ¬ isLetter (byteAt s 0) = true ∨ words.contains s = true) then false else decide (runN isWordB s 0 = s.length)
def sp15 : Sp
  | [.str s], [] => some (.bool (isNameP s), [], [])
  | _, _ => none
abbrev sp16 : Sp := sp15
def S7 : List (FuncId × Sp) := [(13, sp13), (14, sp14), (19, sp19), (23, sp23), (28, sp28)]
theorem sok7 : SOk Try.prog B S7 := .cons fn13 (.cons fn14 (.cons fn19 (.cons fn23 (.cons fn28 .nil))))
theorem kd1 (c : Int) : (kindI c = 1) ↔ isLetterI c = true := by
  unfold kindI; split; simp_all; split; simp_all; split <;> simp_all
theorem kd12 (c : Int) : isWordI c = true ↔ ¬ (¬ kindI c = 1 ∧ ¬ kindI c = 2) := by
  unfold kindI isWordI; split; simp_all; split; simp_all; split <;> simp_all
theorem kdB (c : UInt8) : isWordB c = true ↔ ¬ (¬ kindI c.toNat = 1 ∧ ¬ kindI c.toNat = 2) := kd12 _
theorem fn15 : FnOk Try.prog B 15 sp15 := by
  intro args objs r objs' news h
  unfold sp15 at h
  split at h
  · rename_i s
    cases h
    by_cases h0 : s = []
    · subst h0
      refine k15 (viaS sok7 ?_)
      have hp : True := trivial
      repeat' first
        | refine s_seq ?_
        | refine s_skip ?_
        | (refine s_reg fun K hK => ?_; simp +contextual [S7, sp13, sp19, sp28, isL, hp]; refine hK _ ?_; clear hK K)
        | (refine s_regD fun K hK => ?_; simp +contextual [S7, sp13, sp19, sp28, isL, hp]; refine finD rfl ?_; simp; refine hK _ ?_; clear hK K)
        | (refine c_reg fun K hK => ?_; simp +contextual [S7, sp13, sp19, sp28, isL, hp]; refine hK _ ?_; clear hK K)
        | (refine c_regD fun K hK => ?_; simp +contextual [S7, sp13, sp19, sp28, isL, hp]; refine finD rfl ?_; simp; refine hK _ ?_; clear hK K)
        | (refine c_cond rfl (fun h => ?_) (fun h => ?_) <;> (replace hp := And.intro h hp; clear h; try simp only [Bool.eq_false_iff, ne_eq, Bool.and_eq_true, Bool.or_eq_true, Bool.not_eq_true', decide_eq_true_eq, Bool.false_eq_true, Bool.true_eq_false, Decidable.not_not, not_true_eq_false, not_false_eq_true, false_and, true_and] at hp))
        | (refine s_cond rfl (fun h => ?_) (fun h => ?_) <;> (replace hp := And.intro h hp; clear h; try simp only [Bool.eq_false_iff, ne_eq, Bool.and_eq_true, Bool.or_eq_true, Bool.not_eq_true', decide_eq_true_eq, Bool.false_eq_true, Bool.true_eq_false, Decidable.not_not, not_true_eq_false, not_false_eq_true, false_and, true_and] at hp))
        | refine s_block ?_
        | refine c_block ?_
        | refine c_skip ?_
        | refine s_ret ?_
        | refine c_ret ?_
        | refine c_exit ?_
        | refine s_exit ?_
        | refine leave_r ?_
        | refine next_r ?_
        | refine leave_n ?_
        | refine next_n ?_
        | refine next_e ?_
        | refine leave_eq ?_
        | refine leave_ne (by decide) ?_
        | refine hleave .ret _ (by simp) ?_
        | refine hleave (.exit _) _ (by simp) ?_
        | refine c_seq ?_

      all_goals simp [EndA, isNameP]
    have hpos : 0 < s.length := by cases s; exact absurd rfl h0; simp
    have hz : ¬ (s.length : Int) = 0 := by omega
    by_cases h40 : (40 : Int) < s.length
    · refine k15 (viaS sok7 ?_)
      have hp : True := trivial
      repeat' first
        | refine s_seq ?_
        | refine s_skip ?_
        | (refine s_reg fun K hK => ?_; simp +contextual [S7, sp13, sp19, sp28, isL, h0, hpos, h40, hp]; refine hK _ ?_; clear hK K)
        | (refine s_regD fun K hK => ?_; simp +contextual [S7, sp13, sp19, sp28, isL, h0, hpos, h40, hp]; refine finD rfl ?_; simp; refine hK _ ?_; clear hK K)
        | (refine c_reg fun K hK => ?_; simp +contextual [S7, sp13, sp19, sp28, isL, h0, hpos, h40, hp]; refine hK _ ?_; clear hK K)
        | (refine c_regD fun K hK => ?_; simp +contextual [S7, sp13, sp19, sp28, isL, h0, hpos, h40, hp]; refine finD rfl ?_; simp; refine hK _ ?_; clear hK K)
        | (refine c_cond rfl (fun h => ?_) (fun h => ?_) <;> (replace hp := And.intro h hp; clear h; try simp only [Bool.eq_false_iff, ne_eq, Bool.and_eq_true, Bool.or_eq_true, Bool.not_eq_true', decide_eq_true_eq, Bool.false_eq_true, Bool.true_eq_false, Decidable.not_not, not_true_eq_false, not_false_eq_true, false_and, true_and] at hp))
        | (refine s_cond rfl (fun h => ?_) (fun h => ?_) <;> (replace hp := And.intro h hp; clear h; try simp only [Bool.eq_false_iff, ne_eq, Bool.and_eq_true, Bool.or_eq_true, Bool.not_eq_true', decide_eq_true_eq, Bool.false_eq_true, Bool.true_eq_false, Decidable.not_not, not_true_eq_false, not_false_eq_true, false_and, true_and] at hp))
        | refine s_block ?_
        | refine c_block ?_
        | refine c_skip ?_
        | refine s_ret ?_
        | refine c_ret ?_
        | refine c_exit ?_
        | refine s_exit ?_
        | refine leave_r ?_
        | refine next_r ?_
        | refine leave_n ?_
        | refine next_n ?_
        | refine next_e ?_
        | refine leave_eq ?_
        | refine leave_ne (by decide) ?_
        | refine hleave .ret _ (by simp) ?_
        | refine hleave (.exit _) _ (by simp) ?_
        | refine c_seq ?_

      all_goals simp [EndA, isNameP, h40]
    have hl : s.length < 100000000 := by omega
    refine k15 (viaS sok7 ?_)
    have hp : True := trivial
    repeat' first
      | refine s_seq ?_
      | refine s_skip ?_
      | (refine s_reg fun K hK => ?_; simp +contextual [S7, sp13, sp19, sp28, isL, h0, hpos, h40, hl, hp]; refine hK _ ?_; clear hK K)
      | (refine s_regD fun K hK => ?_; simp +contextual [S7, sp13, sp19, sp28, isL, h0, hpos, h40, hl, hp]; refine finD rfl ?_; simp; refine hK _ ?_; clear hK K)
      | (refine c_reg fun K hK => ?_; simp +contextual [S7, sp13, sp19, sp28, isL, h0, hpos, h40, hl, hp]; refine hK _ ?_; clear hK K)
      | (refine c_regD fun K hK => ?_; simp +contextual [S7, sp13, sp19, sp28, isL, h0, hpos, h40, hl, hp]; refine finD rfl ?_; simp; refine hK _ ?_; clear hK K)
      | (refine c_cond rfl (fun h => ?_) (fun h => ?_) <;> (replace hp := And.intro h hp; clear h; try simp only [Bool.eq_false_iff, ne_eq, Bool.and_eq_true, Bool.or_eq_true, Bool.not_eq_true', decide_eq_true_eq, Bool.false_eq_true, Bool.true_eq_false, Decidable.not_not, not_true_eq_false, not_false_eq_true, false_and, true_and] at hp))
      | (refine s_cond rfl (fun h => ?_) (fun h => ?_) <;> (replace hp := And.intro h hp; clear h; try simp only [Bool.eq_false_iff, ne_eq, Bool.and_eq_true, Bool.or_eq_true, Bool.not_eq_true', decide_eq_true_eq, Bool.false_eq_true, Bool.true_eq_false, Decidable.not_not, not_true_eq_false, not_false_eq_true, false_and, true_and] at hp))
      | refine s_block ?_
      | refine c_block ?_
      | refine c_skip ?_
      | refine s_ret ?_
      | refine c_ret ?_
      | refine c_exit ?_
      | refine s_exit ?_
      | refine leave_r ?_
      | refine next_r ?_
      | refine leave_n ?_
      | refine next_n ?_
      | refine next_e ?_
      | refine leave_eq ?_
      | refine leave_ne (by decide) ?_
      | refine hleave .ret _ (by simp) ?_
      | refine hleave (.exit _) _ (by simp) ?_
      | refine c_seq ?_

    · have e : isNameP s = false := by unfold isNameP; rw [if_pos]; right; right; simpa using hp.1
      simp [EndA, e]
    · have e : isNameP s = decide (runN isWordB s 0 = s.length) := by unfold isNameP; rw [if_neg]; have := hp.1; simp only [hz, h40, false_or]; simpa using this
      rw [e]; simp [EndA]; exact Int.natCast_inj
  · cases h
theorem fn16 : FnOk Try.prog B 16 sp16 := by
  intro args objs r objs' news h
  unfold sp16 sp15 at h
  split at h
  · rename_i s
    cases h
    by_cases h0 : s = []
    · subst h0
      refine k16 (viaS sok7 ?_)
      have hp : True := trivial
      repeat' first
        | refine s_seq ?_
        | refine s_skip ?_
        | (refine s_reg fun K hK => ?_; simp +contextual [S7, sp13, sp19, sp23, hp]; refine hK _ ?_; clear hK K)
        | (refine s_regD fun K hK => ?_; simp +contextual [S7, sp13, sp19, sp23, hp]; refine finD rfl ?_; simp; refine hK _ ?_; clear hK K)
        | (refine c_reg fun K hK => ?_; simp +contextual [S7, sp13, sp19, sp23, hp]; refine hK _ ?_; clear hK K)
        | (refine c_regD fun K hK => ?_; simp +contextual [S7, sp13, sp19, sp23, hp]; refine finD rfl ?_; simp; refine hK _ ?_; clear hK K)
        | (refine c_cond rfl (fun h => ?_) (fun h => ?_) <;> (replace hp := And.intro h hp; clear h; try simp only [Bool.eq_false_iff, ne_eq, Bool.and_eq_true, Bool.or_eq_true, Bool.not_eq_true', decide_eq_true_eq, Bool.false_eq_true, Bool.true_eq_false, Decidable.not_not, not_true_eq_false, not_false_eq_true, false_and, true_and] at hp))
        | (refine s_cond rfl (fun h => ?_) (fun h => ?_) <;> (replace hp := And.intro h hp; clear h; try simp only [Bool.eq_false_iff, ne_eq, Bool.and_eq_true, Bool.or_eq_true, Bool.not_eq_true', decide_eq_true_eq, Bool.false_eq_true, Bool.true_eq_false, Decidable.not_not, not_true_eq_false, not_false_eq_true, false_and, true_and] at hp))
        | refine s_block ?_
        | refine c_block ?_
        | refine c_skip ?_
        | refine s_ret ?_
        | refine c_ret ?_
        | refine c_exit ?_
        | refine s_exit ?_
        | refine leave_r ?_
        | refine next_r ?_
        | refine leave_n ?_
        | refine next_n ?_
        | refine next_e ?_
        | refine leave_eq ?_
        | refine leave_ne (by decide) ?_
        | refine hleave .ret _ (by simp) ?_
        | refine hleave (.exit _) _ (by simp) ?_
        | refine c_seq ?_

      all_goals simp [EndA, isNameP]
    have hpos : 0 < s.length := by cases s; exact absurd rfl h0; simp
    have hz : ¬ (s.length : Int) = 0 := by omega
    by_cases h40 : (40 : Int) < s.length
    · refine k16 (viaS sok7 ?_)
      have hp : True := trivial
      repeat' first
        | refine s_seq ?_
        | refine s_skip ?_
        | (refine s_reg fun K hK => ?_; simp +contextual [S7, sp13, sp19, sp23, h0, hz, hpos, h40, hp]; refine hK _ ?_; clear hK K)
        | (refine s_regD fun K hK => ?_; simp +contextual [S7, sp13, sp19, sp23, h0, hz, hpos, h40, hp]; refine finD rfl ?_; simp; refine hK _ ?_; clear hK K)
        | (refine c_reg fun K hK => ?_; simp +contextual [S7, sp13, sp19, sp23, h0, hz, hpos, h40, hp]; refine hK _ ?_; clear hK K)
        | (refine c_regD fun K hK => ?_; simp +contextual [S7, sp13, sp19, sp23, h0, hz, hpos, h40, hp]; refine finD rfl ?_; simp; refine hK _ ?_; clear hK K)
        | (refine c_cond rfl (fun h => ?_) (fun h => ?_) <;> (replace hp := And.intro h hp; clear h; try simp only [Bool.eq_false_iff, ne_eq, Bool.and_eq_true, Bool.or_eq_true, Bool.not_eq_true', decide_eq_true_eq, Bool.false_eq_true, Bool.true_eq_false, Decidable.not_not, not_true_eq_false, not_false_eq_true, false_and, true_and] at hp))
        | (refine s_cond rfl (fun h => ?_) (fun h => ?_) <;> (replace hp := And.intro h hp; clear h; try simp only [Bool.eq_false_iff, ne_eq, Bool.and_eq_true, Bool.or_eq_true, Bool.not_eq_true', decide_eq_true_eq, Bool.false_eq_true, Bool.true_eq_false, Decidable.not_not, not_true_eq_false, not_false_eq_true, false_and, true_and] at hp))
        | refine s_block ?_
        | refine c_block ?_
        | refine c_skip ?_
        | refine s_ret ?_
        | refine c_ret ?_
        | refine c_exit ?_
        | refine s_exit ?_
        | refine leave_r ?_
        | refine next_r ?_
        | refine leave_n ?_
        | refine next_n ?_
        | refine next_e ?_
        | refine leave_eq ?_
        | refine leave_ne (by decide) ?_
        | refine hleave .ret _ (by simp) ?_
        | refine hleave (.exit _) _ (by simp) ?_
        | refine c_seq ?_

      all_goals simp [EndA, isNameP, h40]
    have hl : s.length < 100000000 := by omega
    refine k16 (viaS sok7 ?_)
    have hp : True := trivial
    repeat' first
      | refine s_seq ?_
      | refine s_skip ?_
      | (refine s_reg fun K hK => ?_; simp +contextual [S7, sp13, sp19, sp23, h0, hz, hpos, h40, hl, hp]; refine hK _ ?_; clear hK K)
      | (refine s_regD fun K hK => ?_; simp +contextual [S7, sp13, sp19, sp23, h0, hz, hpos, h40, hl, hp]; refine finD rfl ?_; simp; refine hK _ ?_; clear hK K)
      | (refine c_reg fun K hK => ?_; simp +contextual [S7, sp13, sp19, sp23, h0, hz, hpos, h40, hl, hp]; refine hK _ ?_; clear hK K)
      | (refine c_regD fun K hK => ?_; simp +contextual [S7, sp13, sp19, sp23, h0, hz, hpos, h40, hl, hp]; refine finD rfl ?_; simp; refine hK _ ?_; clear hK K)
      | (refine c_cond rfl (fun h => ?_) (fun h => ?_) <;> (replace hp := And.intro h hp; clear h; try simp only [Bool.eq_false_iff, ne_eq, Bool.and_eq_true, Bool.or_eq_true, Bool.not_eq_true', decide_eq_true_eq, Bool.false_eq_true, Bool.true_eq_false, Decidable.not_not, not_true_eq_false, not_false_eq_true, false_and, true_and] at hp))
      | (refine s_cond rfl (fun h => ?_) (fun h => ?_) <;> (replace hp := And.intro h hp; clear h; try simp only [Bool.eq_false_iff, ne_eq, Bool.and_eq_true, Bool.or_eq_true, Bool.not_eq_true', decide_eq_true_eq, Bool.false_eq_true, Bool.true_eq_false, Decidable.not_not, not_true_eq_false, not_false_eq_true, false_and, true_and] at hp))
      | refine s_block ?_
      | refine c_block ?_
      | refine c_skip ?_
      | refine s_ret ?_
      | refine c_ret ?_
      | refine c_exit ?_
      | refine s_exit ?_
      | refine leave_r ?_
      | refine next_r ?_
      | refine leave_n ?_
      | refine next_n ?_
      | refine next_e ?_
      | refine leave_eq ?_
      | refine leave_ne (by decide) ?_
      | refine hleave .ret _ (by simp) ?_
      | refine hleave (.exit _) _ (by simp) ?_
      | refine c_seq ?_

    · have e : isNameP s = false := by
        unfold isNameP; rw [if_pos]; right; right
        rcases hp.1 with h | h
        · left; rwa [kd1] at h
        · right; simpa using h
      simp [EndA, e]
    have e : isNameP s = decide (runN isWordB s 0 = s.length) := by
      unfold isNameP; rw [if_neg]
      have := hp.1
      rw [kd1] at this
      simp only [hz, h40, false_or]
      simpa [isL] using this
    rw [e]
    refine c_loopI (fun (n : Nat) => (⟨[(0, .str s), (3, nV n)], []⟩ : St)) (fun n => n ≤ s.length ∧ runN isWordB s n = runN isWordB s 0) (fun n => s.length - n) 0 (by simp) ⟨by simp, by simp⟩ (fun n K' hn hnext hleave => ?_)
    obtain ⟨hn1, hn2⟩ := hn
    repeat' first
      | refine s_seq ?_
      | refine s_skip ?_
      | (refine s_reg fun K hK => ?_; simp +contextual [S7, sp13, sp19, sp23, hp]; refine hK _ ?_; clear hK K)
      | (refine s_regD fun K hK => ?_; simp +contextual [S7, sp13, sp19, sp23, hp]; refine finD rfl ?_; simp; refine hK _ ?_; clear hK K)
      | (refine c_reg fun K hK => ?_; simp +contextual [S7, sp13, sp19, sp23, hp]; refine hK _ ?_; clear hK K)
      | (refine c_regD fun K hK => ?_; simp +contextual [S7, sp13, sp19, sp23, hp]; refine finD rfl ?_; simp; refine hK _ ?_; clear hK K)
      | (refine c_cond rfl (fun h => ?_) (fun h => ?_) <;> (replace hp := And.intro h hp; clear h; try simp only [Bool.eq_false_iff, ne_eq, Bool.and_eq_true, Bool.or_eq_true, Bool.not_eq_true', decide_eq_true_eq, Bool.false_eq_true, Bool.true_eq_false, Decidable.not_not, not_true_eq_false, not_false_eq_true, false_and, true_and] at hp))
      | (refine s_cond rfl (fun h => ?_) (fun h => ?_) <;> (replace hp := And.intro h hp; clear h; try simp only [Bool.eq_false_iff, ne_eq, Bool.and_eq_true, Bool.or_eq_true, Bool.not_eq_true', decide_eq_true_eq, Bool.false_eq_true, Bool.true_eq_false, Decidable.not_not, not_true_eq_false, not_false_eq_true, false_and, true_and] at hp))
      | refine s_block ?_
      | refine c_block ?_
      | refine c_skip ?_
      | refine s_ret ?_
      | refine c_ret ?_
      | refine c_exit ?_
      | refine s_exit ?_
      | refine leave_r ?_
      | refine next_r ?_
      | refine leave_n ?_
      | refine next_n ?_
      | refine next_e ?_
      | refine leave_eq ?_
      | refine leave_ne (by decide) ?_
      | refine hleave .ret _ (by simp) ?_
      | refine hleave (.exit _) _ (by simp) ?_
      | refine c_seq ?_

    · have hne : decide (runN isWordB s 0 = s.length) = false := by
        rw [← hn2, runN_step hp.2.1, if_neg (fun h => (kdB _).1 h hp.1)]
        have := hp.2.1
        simp only [decide_eq_false_iff_not]
        omega
      simp [EndA, hne]
    · refine hnext _ (n + 1) (by simp [wrapN (n := (n : Int) + 1) (m := n + 1) (by omega) (by omega)]) ⟨by have := hp.2.1; omega, ?_⟩ (by have := hp.2.1; omega)
      rw [← hn2, runN_step hp.2.1, if_pos ((kdB _).2 hp.1)]
    · have hne : decide (runN isWordB s 0 = s.length) = true := by
        rw [← hn2, runN_end (by omega)]
        simp only [decide_eq_true_eq]
        omega
      simp [EndA, hne]
  · cases h
end Go.Proofs.Ytblmmaecklgbhaa
