/- A part of the proof of a law of this seat: no condition. -/
import Derived.Test.YtblmmaecklgbhaaLexC
import Derived.Test.YtblmmaecklgbhaaLexLib
import Derived.Lib.IndexMore
import Derived.Lib.Bytealg
set_option linter.unusedSimpArgs false
set_option linter.unusedVariables false
set_option maxRecDepth 20000
namespace Go.Proofs.Ytblmmaecklgbhaa
open Go.Ax
variable {B : Heap}
def isDigitI (c : Int) : Bool := decide (48 ≤ c) && decide (c ≤ 57)
def isLetterI (c : Int) : Bool := (decide (97 ≤ c) && decide (c ≤ 122)) || (decide (65 ≤ c) && decide (c ≤ 90)) || decide (c = 95)
def isWordI (c : Int) : Bool := isLetterI c || isDigitI c
def notEndI (c : Int) : Bool := !decide (c = 10)
abbrev bV (c : UInt8) : V := .int .u8 c.toNat
abbrev nV (n : Nat) : V := .int .i64 n
def ofI (p : Int → Bool) (c : UInt8) : Bool := p c.toNat
def sp30 : Sp
  | [.int .u8 c], [] => some (.bool (isDigitI c), [], [])
  | _, _ => none
def sp28 : Sp
  | [.int .u8 c], [] => some (.bool (isLetterI c), [], [])
  | _, _ => none
def sp29 : Sp
  | [.int .u8 c], [] => some (.bool (isWordI c), [], [])
  | _, _ => none
def sp36 : Sp
  | [.int .u8 c], [] => some (.bool (isWordI c), [], [])
  | _, _ => none
def sp20 : Sp
  | [.int .u8 c], [] => some (.bool (notEndI c), [], [])
  | _, _ => none
theorem fn30 : FnOk Try.prog B 30 sp30 := by
  intro args objs r objs' news h
  unfold sp30 at h
  split at h
  · cases h
    refine k30 ?_
    have hp : True := trivial
    repeat' first
      | refine s_seq ?_
      | refine s_skip ?_
      | (refine s_reg fun K hK => ?_; simp +contextual [hp]; refine hK _ ?_; clear hK K)
      | (refine s_regD fun K hK => ?_; simp +contextual [hp]; refine finD rfl ?_; simp; refine hK _ ?_; clear hK K)
      | (refine c_reg fun K hK => ?_; simp +contextual [hp]; refine hK _ ?_; clear hK K)
      | (refine c_regD fun K hK => ?_; simp +contextual [hp]; refine finD rfl ?_; simp; refine hK _ ?_; clear hK K)
      | (refine c_cond rfl (fun h => ?_) (fun h => ?_) <;> (replace hp := And.intro h hp; clear h; try simp only [Bool.eq_false_iff, ne_eq, Bool.and_eq_true, Bool.or_eq_true, Bool.not_eq_true', decide_eq_true_eq, Bool.false_eq_true, Bool.true_eq_false, Decidable.not_not, not_true_eq_false, not_false_eq_true, false_and, true_and] at hp))
      | (refine s_cond rfl (fun h => ?_) (fun h => ?_) <;> (replace hp := And.intro h hp; clear h; try simp only [Bool.eq_false_iff, ne_eq, Bool.and_eq_true, Bool.or_eq_true, Bool.not_eq_true', decide_eq_true_eq, Bool.false_eq_true, Bool.true_eq_false, Decidable.not_not, not_true_eq_false, not_false_eq_true, false_and, true_and] at hp))
      | refine s_block ?_
      | refine c_block ?_
      | refine c_skip ?_
      | refine s_ret ?_
      | refine c_ret ?_
      | refine c_exit ?_
      | refine s_exit ?_
      | refine leave_r ?_
      | refine next_r ?_
      | refine leave_n ?_
      | refine next_n ?_
      | refine next_e ?_
      | refine leave_eq ?_
      | refine leave_ne (by decide) ?_
      | refine hleave .ret _ (by simp) ?_
      | refine hleave (.exit _) _ (by simp) ?_
      | refine c_seq ?_
    simp [EndA, isDigitI]
  · cases h
theorem fn28 : FnOk Try.prog B 28 sp28 := by
  intro args objs r objs' news h
  unfold sp28 at h
  split at h
  · cases h
    refine k28 ?_
    have hp : True := trivial
    repeat' first
      | refine s_seq ?_
      | refine s_skip ?_
      | (refine s_reg fun K hK => ?_; simp +contextual [hp]; refine hK _ ?_; clear hK K)
      | (refine s_regD fun K hK => ?_; simp +contextual [hp]; refine finD rfl ?_; simp; refine hK _ ?_; clear hK K)
      | (refine c_reg fun K hK => ?_; simp +contextual [hp]; refine hK _ ?_; clear hK K)
      | (refine c_regD fun K hK => ?_; simp +contextual [hp]; refine finD rfl ?_; simp; refine hK _ ?_; clear hK K)
      | (refine c_cond rfl (fun h => ?_) (fun h => ?_) <;> (replace hp := And.intro h hp; clear h; try simp only [Bool.eq_false_iff, ne_eq, Bool.and_eq_true, Bool.or_eq_true, Bool.not_eq_true', decide_eq_true_eq, Bool.false_eq_true, Bool.true_eq_false, Decidable.not_not, not_true_eq_false, not_false_eq_true, false_and, true_and] at hp))
      | (refine s_cond rfl (fun h => ?_) (fun h => ?_) <;> (replace hp := And.intro h hp; clear h; try simp only [Bool.eq_false_iff, ne_eq, Bool.and_eq_true, Bool.or_eq_true, Bool.not_eq_true', decide_eq_true_eq, Bool.false_eq_true, Bool.true_eq_false, Decidable.not_not, not_true_eq_false, not_false_eq_true, false_and, true_and] at hp))
      | refine s_block ?_
      | refine c_block ?_
      | refine c_skip ?_
      | refine s_ret ?_
      | refine c_ret ?_
      | refine c_exit ?_
      | refine s_exit ?_
      | refine leave_r ?_
      | refine next_r ?_
      | refine leave_n ?_
      | refine next_n ?_
      | refine next_e ?_
      | refine leave_eq ?_
      | refine leave_ne (by decide) ?_
      | refine hleave .ret _ (by simp) ?_
      | refine hleave (.exit _) _ (by simp) ?_
      | refine c_seq ?_
    rename_i c
    simp [EndA, isLetterI]
    by_cases h1 : 97 ≤ c <;> by_cases h2 : 65 ≤ c <;> simp [h1, h2, Bool.or_assoc]
  · cases h
def S1 : List (FuncId × Sp) := [(28, sp28), (30, sp30)]
theorem sok1 : SOk Try.prog B S1 := .cons fn28 (.cons fn30 .nil)
theorem fn29 : FnOk Try.prog B 29 sp29 := by
  intro args objs r objs' news h
  unfold sp29 at h
  split at h
  · cases h
    refine k29 (viaS sok1 ?_)
    have hp : True := trivial
    repeat' first
      | refine s_seq ?_
      | refine s_skip ?_
      | (refine s_reg fun K hK => ?_; simp +contextual [S1, sp28, sp30, hp]; refine hK _ ?_; clear hK K)
      | (refine s_regD fun K hK => ?_; simp +contextual [S1, sp28, sp30, hp]; refine finD rfl ?_; simp; refine hK _ ?_; clear hK K)
      | (refine c_reg fun K hK => ?_; simp +contextual [S1, sp28, sp30, hp]; refine hK _ ?_; clear hK K)
      | (refine c_regD fun K hK => ?_; simp +contextual [S1, sp28, sp30, hp]; refine finD rfl ?_; simp; refine hK _ ?_; clear hK K)
      | (refine c_cond rfl (fun h => ?_) (fun h => ?_) <;> (replace hp := And.intro h hp; clear h; try simp only [Bool.eq_false_iff, ne_eq, Bool.and_eq_true, Bool.or_eq_true, Bool.not_eq_true', decide_eq_true_eq, Bool.false_eq_true, Bool.true_eq_false, Decidable.not_not, not_true_eq_false, not_false_eq_true, false_and, true_and] at hp))
      | (refine s_cond rfl (fun h => ?_) (fun h => ?_) <;> (replace hp := And.intro h hp; clear h; try simp only [Bool.eq_false_iff, ne_eq, Bool.and_eq_true, Bool.or_eq_true, Bool.not_eq_true', decide_eq_true_eq, Bool.false_eq_true, Bool.true_eq_false, Decidable.not_not, not_true_eq_false, not_false_eq_true, false_and, true_and] at hp))
      | refine s_block ?_
      | refine c_block ?_
      | refine c_skip ?_
      | refine s_ret ?_
      | refine c_ret ?_
      | refine c_exit ?_
      | refine s_exit ?_
      | refine leave_r ?_
      | refine next_r ?_
      | refine leave_n ?_
      | refine next_n ?_
      | refine next_e ?_
      | refine leave_eq ?_
      | refine leave_ne (by decide) ?_
      | refine hleave .ret _ (by simp) ?_
      | refine hleave (.exit _) _ (by simp) ?_
      | refine c_seq ?_
    simp [EndA, isWordI]
  · cases h
theorem fn36 : FnOk Try.prog B 36 sp36 := by
  intro args objs r objs' news h
  unfold sp36 at h
  split at h
  · cases h
    refine k36 (viaS sok1 ?_)
    have hp : True := trivial
    repeat' first
      | refine s_seq ?_
      | refine s_skip ?_
      | (refine s_reg fun K hK => ?_; simp +contextual [S1, sp28, sp30, hp]; refine hK _ ?_; clear hK K)
      | (refine s_regD fun K hK => ?_; simp +contextual [S1, sp28, sp30, hp]; refine finD rfl ?_; simp; refine hK _ ?_; clear hK K)
      | (refine c_reg fun K hK => ?_; simp +contextual [S1, sp28, sp30, hp]; refine hK _ ?_; clear hK K)
      | (refine c_regD fun K hK => ?_; simp +contextual [S1, sp28, sp30, hp]; refine finD rfl ?_; simp; refine hK _ ?_; clear hK K)
      | (refine c_cond rfl (fun h => ?_) (fun h => ?_) <;> (replace hp := And.intro h hp; clear h; try simp only [Bool.eq_false_iff, ne_eq, Bool.and_eq_true, Bool.or_eq_true, Bool.not_eq_true', decide_eq_true_eq, Bool.false_eq_true, Bool.true_eq_false, Decidable.not_not, not_true_eq_false, not_false_eq_true, false_and, true_and] at hp))
      | (refine s_cond rfl (fun h => ?_) (fun h => ?_) <;> (replace hp := And.intro h hp; clear h; try simp only [Bool.eq_false_iff, ne_eq, Bool.and_eq_true, Bool.or_eq_true, Bool.not_eq_true', decide_eq_true_eq, Bool.false_eq_true, Bool.true_eq_false, Decidable.not_not, not_true_eq_false, not_false_eq_true, false_and, true_and] at hp))
      | refine s_block ?_
      | refine c_block ?_
      | refine c_skip ?_
      | refine s_ret ?_
      | refine c_ret ?_
      | refine c_exit ?_
      | refine s_exit ?_
      | refine leave_r ?_
      | refine next_r ?_
      | refine leave_n ?_
      | refine next_n ?_
      | refine next_e ?_
      | refine leave_eq ?_
      | refine leave_ne (by decide) ?_
      | refine hleave .ret _ (by simp) ?_
      | refine hleave (.exit _) _ (by simp) ?_
      | refine c_seq ?_
    simp [EndA, isWordI]
  · cases h
theorem fn20 : FnOk Try.prog B 20 sp20 := by
  intro args objs r objs' news h
  unfold sp20 at h
  split at h
  · cases h
    refine k20 ?_
    have hp : True := trivial
    repeat' first
      | refine s_seq ?_
      | refine s_skip ?_
      | (refine s_reg fun K hK => ?_; simp +contextual [hp]; refine hK _ ?_; clear hK K)
      | (refine s_regD fun K hK => ?_; simp +contextual [hp]; refine finD rfl ?_; simp; refine hK _ ?_; clear hK K)
      | (refine c_reg fun K hK => ?_; simp +contextual [hp]; refine hK _ ?_; clear hK K)
      | (refine c_regD fun K hK => ?_; simp +contextual [hp]; refine finD rfl ?_; simp; refine hK _ ?_; clear hK K)
      | (refine c_cond rfl (fun h => ?_) (fun h => ?_) <;> (replace hp := And.intro h hp; clear h; try simp only [Bool.eq_false_iff, ne_eq, Bool.and_eq_true, Bool.or_eq_true, Bool.not_eq_true', decide_eq_true_eq, Bool.false_eq_true, Bool.true_eq_false, Decidable.not_not, not_true_eq_false, not_false_eq_true, false_and, true_and] at hp))
      | (refine s_cond rfl (fun h => ?_) (fun h => ?_) <;> (replace hp := And.intro h hp; clear h; try simp only [Bool.eq_false_iff, ne_eq, Bool.and_eq_true, Bool.or_eq_true, Bool.not_eq_true', decide_eq_true_eq, Bool.false_eq_true, Bool.true_eq_false, Decidable.not_not, not_true_eq_false, not_false_eq_true, false_and, true_and] at hp))
      | refine s_block ?_
      | refine c_block ?_
      | refine c_skip ?_
      | refine s_ret ?_
      | refine c_ret ?_
      | refine c_exit ?_
      | refine s_exit ?_
      | refine leave_r ?_
      | refine next_r ?_
      | refine leave_n ?_
      | refine next_n ?_
      | refine next_e ?_
      | refine leave_eq ?_
      | refine leave_ne (by decide) ?_
      | refine hleave .ret _ (by simp) ?_
      | refine hleave (.exit _) _ (by simp) ?_
      | refine c_seq ?_
    simp [EndA, notEndI]
  · cases h
/-- As far as the bytes are of a kind. -/
def runN (p : UInt8 → Bool) (s : List UInt8) (i : Nat) : Nat := i + ((s.drop i).takeWhile p).length
theorem runN_step {p : UInt8 → Bool} {s : List UInt8} {i : Nat} (h : i < s.length) : runN p s i = if p (byteAt s i) then runN p s (i + 1) else i := by
  unfold runN
  rw [List.drop_eq_getElem_cons h, List.takeWhile_cons]
  have : byteAt s i = s[i] := by simp [byteAt, h]
  rw [this]
  split <;> simp <;> omega
theorem runN_end {p : UInt8 → Bool} {s : List UInt8} {i : Nat} (h : s.length ≤ i) : runN p s i = i := by
  unfold runN; rw [List.drop_eq_nil_of_le h]; simp
theorem runN_le (p : UInt8 → Bool) (s : List UInt8) (i : Nat) : i ≤ runN p s i := Nat.le_add_right _ _
theorem runN_lt (p : UInt8 → Bool) {s : List UInt8} {i : Nat} (h : i ≤ s.length) : runN p s i ≤ s.length := by
  have := (List.takeWhile_sublist p (l := s.drop i)).length_le
  simp only [List.length_drop] at this
  unfold runN
  omega
theorem run_ok {p : UInt8 → Bool} {f : FuncId} (hpr : ∀ c, Ok B f [bV c] [] (.bool (p c)) [] []) {s : List UInt8} {i : Nat} (hs : s.length < 100000000) (hi : i ≤ s.length) :
    Ok B 19 [.str s, nV i, .fn f] [] (nV (runN p s i)) [] [] := by
  refine k19 ?_
  have hp : True := trivial
  repeat' first
    | refine s_seq ?_
    | refine s_skip ?_
    | (refine s_reg fun K hK => ?_; simp +contextual [hp]; refine hK _ ?_; clear hK K)
    | (refine s_regD fun K hK => ?_; simp +contextual [hp]; refine finD rfl ?_; simp; refine hK _ ?_; clear hK K)
    | (refine c_reg fun K hK => ?_; simp +contextual [hp]; refine hK _ ?_; clear hK K)
    | (refine c_regD fun K hK => ?_; simp +contextual [hp]; refine finD rfl ?_; simp; refine hK _ ?_; clear hK K)
    | (refine c_cond rfl (fun h => ?_) (fun h => ?_) <;> (replace hp := And.intro h hp; clear h; try simp only [Bool.eq_false_iff, ne_eq, Bool.and_eq_true, Bool.or_eq_true, Bool.not_eq_true', decide_eq_true_eq, Bool.false_eq_true, Bool.true_eq_false, Decidable.not_not, not_true_eq_false, not_false_eq_true, false_and, true_and] at hp))
    | (refine s_cond rfl (fun h => ?_) (fun h => ?_) <;> (replace hp := And.intro h hp; clear h; try simp only [Bool.eq_false_iff, ne_eq, Bool.and_eq_true, Bool.or_eq_true, Bool.not_eq_true', decide_eq_true_eq, Bool.false_eq_true, Bool.true_eq_false, Decidable.not_not, not_true_eq_false, not_false_eq_true, false_and, true_and] at hp))
    | refine s_block ?_
    | refine c_block ?_
    | refine c_skip ?_
    | refine s_ret ?_
    | refine c_ret ?_
    | refine c_exit ?_
    | refine s_exit ?_
    | refine leave_r ?_
    | refine next_r ?_
    | refine leave_n ?_
    | refine next_n ?_
    | refine next_e ?_
    | refine leave_eq ?_
    | refine leave_ne (by decide) ?_
    | refine hleave .ret _ (by simp) ?_
    | refine hleave (.exit _) _ (by simp) ?_
    | refine c_seq ?_

  refine c_loopI (fun (n : Nat) => (⟨[(0, .str s), (1, nV n), (2, .fn f)], []⟩ : St)) (fun n => n ≤ s.length ∧ runN p s n = runN p s i) (fun n => s.length - n) i (by simp [restrict]) ⟨hi, rfl⟩ (fun n K' hn hnext hleave => ?_)
  refine s_seq ?_
  refine s_reg fun K hK => ?_
  simp +contextual
  refine brP_l (fun _ => callK (hpr _) (Nat.zero_le _)) ?_
  simp +contextual
  refine hK _ ?_
  clear hK K
  refine s_cond (t := decide (n < s.length) && p (byteAt s n)) rfl (fun ht => ?_) (fun ht => ?_)
  · simp at ht
    clear hp
    have hw : IntKind.wrap .i64 ((n : Int) + 1) = ((n + 1 : Nat) : Int) := wrapN (by omega) (by omega)
    have hp : True := trivial
    repeat' first
      | refine s_seq ?_
      | refine s_skip ?_
      | (refine s_reg fun K hK => ?_; simp +contextual [hw, hp]; refine hK _ ?_; clear hK K)
      | (refine s_regD fun K hK => ?_; simp +contextual [hw, hp]; refine finD rfl ?_; simp; refine hK _ ?_; clear hK K)
      | (refine c_reg fun K hK => ?_; simp +contextual [hw, hp]; refine hK _ ?_; clear hK K)
      | (refine c_regD fun K hK => ?_; simp +contextual [hw, hp]; refine finD rfl ?_; simp; refine hK _ ?_; clear hK K)
      | (refine c_cond rfl (fun h => ?_) (fun h => ?_) <;> (replace hp := And.intro h hp; clear h; try simp only [Bool.eq_false_iff, ne_eq, Bool.and_eq_true, Bool.or_eq_true, Bool.not_eq_true', decide_eq_true_eq, Bool.false_eq_true, Bool.true_eq_false, Decidable.not_not, not_true_eq_false, not_false_eq_true, false_and, true_and] at hp))
      | (refine s_cond rfl (fun h => ?_) (fun h => ?_) <;> (replace hp := And.intro h hp; clear h; try simp only [Bool.eq_false_iff, ne_eq, Bool.and_eq_true, Bool.or_eq_true, Bool.not_eq_true', decide_eq_true_eq, Bool.false_eq_true, Bool.true_eq_false, Decidable.not_not, not_true_eq_false, not_false_eq_true, false_and, true_and] at hp))
      | refine s_block ?_
      | refine c_block ?_
      | refine c_skip ?_
      | refine s_ret ?_
      | refine c_ret ?_
      | refine c_exit ?_
      | refine s_exit ?_
      | refine leave_r ?_
      | refine next_r ?_
      | refine leave_n ?_
      | refine next_n ?_
      | refine next_e ?_
      | refine leave_eq ?_
      | refine leave_ne (by decide) ?_
      | refine hleave .ret _ (by simp) ?_
      | refine hleave (.exit _) _ (by simp) ?_
      | refine c_seq ?_

    refine hnext _ (n + 1) (by simp [restrict]) ⟨by omega, ?_⟩ (by omega)
    rw [← hn.2, runN_step ht.1, if_pos ht.2]
  · refine s_exit ?_
    refine hleave _ _ (by simp) ?_
    have hend : runN p s i = n := by
      rw [← hn.2]
      by_cases h : n < s.length
      · simp [h] at ht
        rw [runN_step h, ht]; simp
      · rw [runN_end (by omega)]
    have hp : True := trivial
    repeat' first
      | refine s_seq ?_
      | refine s_skip ?_
      | (refine s_reg fun K hK => ?_; simp +contextual [hp]; refine hK _ ?_; clear hK K)
      | (refine s_regD fun K hK => ?_; simp +contextual [hp]; refine finD rfl ?_; simp; refine hK _ ?_; clear hK K)
      | (refine c_reg fun K hK => ?_; simp +contextual [hp]; refine hK _ ?_; clear hK K)
      | (refine c_regD fun K hK => ?_; simp +contextual [hp]; refine finD rfl ?_; simp; refine hK _ ?_; clear hK K)
      | (refine c_cond rfl (fun h => ?_) (fun h => ?_) <;> (replace hp := And.intro h hp; clear h; try simp only [Bool.eq_false_iff, ne_eq, Bool.and_eq_true, Bool.or_eq_true, Bool.not_eq_true', decide_eq_true_eq, Bool.false_eq_true, Bool.true_eq_false, Decidable.not_not, not_true_eq_false, not_false_eq_true, false_and, true_and] at hp))
      | (refine s_cond rfl (fun h => ?_) (fun h => ?_) <;> (replace hp := And.intro h hp; clear h; try simp only [Bool.eq_false_iff, ne_eq, Bool.and_eq_true, Bool.or_eq_true, Bool.not_eq_true', decide_eq_true_eq, Bool.false_eq_true, Bool.true_eq_false, Decidable.not_not, not_true_eq_false, not_false_eq_true, false_and, true_and] at hp))
      | refine s_block ?_
      | refine c_block ?_
      | refine c_skip ?_
      | refine s_ret ?_
      | refine c_ret ?_
      | refine c_exit ?_
      | refine s_exit ?_
      | refine leave_r ?_
      | refine next_r ?_
      | refine leave_n ?_
      | refine next_n ?_
      | refine next_e ?_
      | refine leave_eq ?_
      | refine leave_ne (by decide) ?_
      | refine hleave .ret _ (by simp) ?_
      | refine hleave (.exit _) _ (by simp) ?_
      | refine c_seq ?_

    simp [EndA, hend]
def sp19 : Sp
  | [.str s, .int .i64 i, .fn f], [] => if 0 ≤ i ∧ i ≤ s.length ∧ s.length < 100000000 then
      (if f = 36 ∨ f = 29 then some (nV (runN (ofI isWordI) s i.toNat), [], []) else if f = 30 then some (nV (runN (ofI isDigitI) s i.toNat), [], []) else if f = 20 then some (nV (runN (ofI notEndI) s i.toNat), [], []) else none) else none
  | _, _ => none
theorem fn19 : FnOk Try.prog B 19 sp19 := by
  intro args objs r objs' news h
  unfold sp19 at h
  split at h
  · rename_i s i f
    split at h
    · rename_i hc
      obtain ⟨n, rfl⟩ : ∃ n : Nat, i = n := ⟨i.toNat, by omega⟩
      simp only [Int.toNat_natCast] at h
      split at h
      · rename_i hf
        cases h
        refine run_ok (fun c => ?_) hc.2.2 (by omega)
        rcases hf with rfl | rfl
        · exact fn36 _ _ _ _ _ rfl
        · exact fn29 _ _ _ _ _ rfl
      · split at h
        · rename_i hf
          cases h
          subst hf
          exact run_ok (fun c => fn30 _ _ _ _ _ rfl) hc.2.2 (by omega)
        · split at h
          · rename_i hf
            cases h
            subst hf
            exact run_ok (fun c => fn20 _ _ _ _ _ rfl) hc.2.2 (by omega)
          · cases h
    · cases h
  · cases h
def hasPre (s t : List UInt8) : Bool := decide (t.length ≤ s.length) && decide (s.take t.length = t)
def sp35 : Sp
  | [.str s, .str t], [] => some (.bool (hasPre s t), [], [])
  | _, _ => none
theorem fn35 : FnOk Try.prog B 35 sp35 := by
  intro args objs r objs' news h
  unfold sp35 at h
  split at h
  · cases h
    refine k35 ?_
    have hp : True := trivial
    repeat' first
      | refine s_seq ?_
      | refine s_skip ?_
      | (refine s_reg fun K hK => ?_; simp +contextual [hp]; refine hK _ ?_; clear hK K)
      | (refine s_regD fun K hK => ?_; simp +contextual [hp]; refine finD rfl ?_; simp; refine hK _ ?_; clear hK K)
      | (refine c_reg fun K hK => ?_; simp +contextual [hp]; refine hK _ ?_; clear hK K)
      | (refine c_regD fun K hK => ?_; simp +contextual [hp]; refine finD rfl ?_; simp; refine hK _ ?_; clear hK K)
      | (refine c_cond rfl (fun h => ?_) (fun h => ?_) <;> (replace hp := And.intro h hp; clear h; try simp only [Bool.eq_false_iff, ne_eq, Bool.and_eq_true, Bool.or_eq_true, Bool.not_eq_true', decide_eq_true_eq, Bool.false_eq_true, Bool.true_eq_false, Decidable.not_not, not_true_eq_false, not_false_eq_true, false_and, true_and] at hp))
      | (refine s_cond rfl (fun h => ?_) (fun h => ?_) <;> (replace hp := And.intro h hp; clear h; try simp only [Bool.eq_false_iff, ne_eq, Bool.and_eq_true, Bool.or_eq_true, Bool.not_eq_true', decide_eq_true_eq, Bool.false_eq_true, Bool.true_eq_false, Decidable.not_not, not_true_eq_false, not_false_eq_true, false_and, true_and] at hp))
      | refine s_block ?_
      | refine c_block ?_
      | refine c_skip ?_
      | refine s_ret ?_
      | refine c_ret ?_
      | refine c_exit ?_
      | refine s_exit ?_
      | refine leave_r ?_
      | refine next_r ?_
      | refine leave_n ?_
      | refine next_n ?_
      | refine next_e ?_
      | refine leave_eq ?_
      | refine leave_ne (by decide) ?_
      | refine hleave .ret _ (by simp) ?_
      | refine hleave (.exit _) _ (by simp) ?_
      | refine c_seq ?_
    simp [EndA, hasPre]
  · cases h
abbrev sp18 : Sp := sp35
theorem fn18 : FnOk Try.prog B 18 sp18 := by
  intro args objs r objs' news h
  unfold sp18 sp35 at h
  split at h
  · cases h
    refine k18 (viaS (.cons fn35 .nil) ?_)
    have hp : True := trivial
    repeat' first
      | refine s_seq ?_
      | refine s_skip ?_
      | (refine s_reg fun K hK => ?_; simp +contextual [lookS, sp35, hp]; refine hK _ ?_; clear hK K)
      | (refine s_regD fun K hK => ?_; simp +contextual [lookS, sp35, hp]; refine finD rfl ?_; simp; refine hK _ ?_; clear hK K)
      | (refine c_reg fun K hK => ?_; simp +contextual [lookS, sp35, hp]; refine hK _ ?_; clear hK K)
      | (refine c_regD fun K hK => ?_; simp +contextual [lookS, sp35, hp]; refine finD rfl ?_; simp; refine hK _ ?_; clear hK K)
      | (refine c_cond rfl (fun h => ?_) (fun h => ?_) <;> (replace hp := And.intro h hp; clear h; try simp only [Bool.eq_false_iff, ne_eq, Bool.and_eq_true, Bool.or_eq_true, Bool.not_eq_true', decide_eq_true_eq, Bool.false_eq_true, Bool.true_eq_false, Decidable.not_not, not_true_eq_false, not_false_eq_true, false_and, true_and] at hp))
      | (refine s_cond rfl (fun h => ?_) (fun h => ?_) <;> (replace hp := And.intro h hp; clear h; try simp only [Bool.eq_false_iff, ne_eq, Bool.and_eq_true, Bool.or_eq_true, Bool.not_eq_true', decide_eq_true_eq, Bool.false_eq_true, Bool.true_eq_false, Decidable.not_not, not_true_eq_false, not_false_eq_true, false_and, true_and] at hp))
      | refine s_block ?_
      | refine c_block ?_
      | refine c_skip ?_
      | refine s_ret ?_
      | refine c_ret ?_
      | refine c_exit ?_
      | refine s_exit ?_
      | refine leave_r ?_
      | refine next_r ?_
      | refine leave_n ?_
      | refine next_n ?_
      | refine next_e ?_
      | refine leave_eq ?_
      | refine leave_ne (by decide) ?_
      | refine hleave .ret _ (by simp) ?_
      | refine hleave (.exit _) _ (by simp) ?_
      | refine c_seq ?_
    simp [EndA, hasPre]
  · cases h
abbrev sp38 : Sp := sp41
theorem fn38 : FnOk Try.prog B 38 sp38 := by
  intro args objs r objs' news h
  unfold sp38 sp41 at h
  split at h
  · cases h
    refine k38 (viaS (.cons fn41 .nil) ?_)
    have hp : True := trivial
    repeat' first
      | refine s_seq ?_
      | refine s_skip ?_
      | (refine s_reg fun K hK => ?_; simp +contextual [lookS, sp41, hp]; refine hK _ ?_; clear hK K)
      | (refine s_regD fun K hK => ?_; simp +contextual [lookS, sp41, hp]; refine finD rfl ?_; simp; refine hK _ ?_; clear hK K)
      | (refine c_reg fun K hK => ?_; simp +contextual [lookS, sp41, hp]; refine hK _ ?_; clear hK K)
      | (refine c_regD fun K hK => ?_; simp +contextual [lookS, sp41, hp]; refine finD rfl ?_; simp; refine hK _ ?_; clear hK K)
      | (refine c_cond rfl (fun h => ?_) (fun h => ?_) <;> (replace hp := And.intro h hp; clear h; try simp only [Bool.eq_false_iff, ne_eq, Bool.and_eq_true, Bool.or_eq_true, Bool.not_eq_true', decide_eq_true_eq, Bool.false_eq_true, Bool.true_eq_false, Decidable.not_not, not_true_eq_false, not_false_eq_true, false_and, true_and] at hp))
      | (refine s_cond rfl (fun h => ?_) (fun h => ?_) <;> (replace hp := And.intro h hp; clear h; try simp only [Bool.eq_false_iff, ne_eq, Bool.and_eq_true, Bool.or_eq_true, Bool.not_eq_true', decide_eq_true_eq, Bool.false_eq_true, Bool.true_eq_false, Decidable.not_not, not_true_eq_false, not_false_eq_true, false_and, true_and] at hp))
      | refine s_block ?_
      | refine c_block ?_
      | refine c_skip ?_
      | refine s_ret ?_
      | refine c_ret ?_
      | refine c_exit ?_
      | refine s_exit ?_
      | refine leave_r ?_
      | refine next_r ?_
      | refine leave_n ?_
      | refine next_n ?_
      | refine next_e ?_
      | refine leave_eq ?_
      | refine leave_ne (by decide) ?_
      | refine hleave .ret _ (by simp) ?_
      | refine hleave (.exit _) _ (by simp) ?_
      | refine c_seq ?_
    simp [EndA]
  · cases h
end Go.Proofs.Ytblmmaecklgbhaa
