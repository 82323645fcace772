/- A part of the proof of a law of this seat: no condition. -/
import Derived.Test.YtblmmaecklgbhaaL1
set_option linter.unusedSimpArgs false
set_option linter.unusedVariables false
set_option maxRecDepth 20000
namespace Go.Proofs.Ytblmmaecklgbhaa
open Go.Ax
structure Tok where
  kind : Nat
  text : List UInt8
  pos : Nat
  deriving Inhabited, DecidableEq
def encT (t : Tok) : V := .agg [nV t.kind, .str t.text, nV t.pos]
def sub (s : List UInt8) (i e : Nat) : List UInt8 := (s.take e).drop i
def twos : List UInt8 := [61, 61, 32, 33, 61, 32, 60, 61, 32, 62, 61, 32, 38, 38, 32, 124, 124, 32, 61, 62]
def ones : List UInt8 := [40, 41, 123, 125, 91, 93, 44, 59, 58, 46, 61, 60, 62, 43, 45, 42, 47, 37, 33, 124, 63]
abbrev isDigit : UInt8 → Bool := ofI isDigitI
abbrev isLetter : UInt8 → Bool := ofI isLetterI
abbrev isWordB : UInt8 → Bool := ofI isWordI
def twoAt (s : List UInt8) (i : Nat) : Bool :=
  decide (i + 1 < s.length) && (!decide (((byteAt s (i + 1)).toNat : Int) = 32) && (Lib.contains twos (sub s i (i + 2)) && !decide (((byteAt s i).toNat : Int) = 32)))
def nextM (s : List UInt8) (i : Nat) : Tok × Nat × Nat :=
  let c := byteAt s i
  if isLetter c then
    let e := runN isWordB s i
    if (40 : Int) < (sub s i e).length then (⟨1, sub s i e, i⟩, 2, i) else (⟨1, sub s i e, i⟩, 0, 0)
  else if isDigit c then
    let e := runN isDigit s i
    if (300 : Int) < (sub s i e).length then (⟨2, sub s i e, i⟩, 2, i)
    else if (c.toNat : Int) = 48 ∧ (1 : Int) < (sub s i e).length then (⟨2, sub s i e, i⟩, 10, i)
    else if e < s.length ∧ isLetter (byteAt s e) = true then (⟨2, sub s i e, i⟩, 100, e)
    else (⟨2, sub s i e, i⟩, 0, 0)
  else if twoAt s i then (⟨3, sub s i (i + 2), i⟩, 0, 0)
  else if Lib.indexByte ones c < 0 then (⟨3, [], i⟩, 100, i)
  else (⟨3, sub s i (i + 1), i⟩, 0, 0)
theorem sub_eq (s : List UInt8) (i e : Nat) : (s.take e).drop i = sub s i e := rfl
def S2 : List (FuncId × Sp) := [(28, sp28), (30, sp30), (19, sp19), (37, sp37), (38, sp38)]
theorem sok2 {m : Int} : SOk Try.prog (base m) S2 := .cons fn28 (.cons fn30 (.cons fn19 (.cons fn37 (.cons fn38 .nil))))
theorem isL (c : UInt8) : isLetterI c.toNat = isLetter c := rfl
theorem isD (c : UInt8) : isDigitI c.toNat = isDigit c := rfl
theorem next_ok {m : Int} {s : List UInt8} {i : Nat} (hs : s.length < 100000000) (hi : i < s.length) :
    Ok (base m) 21 [.str s, nV i] [] (.tup [encT (nextM s i).1, nV (nextM s i).2.1, nV (nextM s i).2.2]) [] [] := by
  have hr1 := runN_le isWordB s i
  have hr2 := runN_lt isWordB (Nat.le_of_lt hi)
  have hd1 := runN_le isDigit s i
  have hd2 := runN_lt isDigit (Nat.le_of_lt hi)
  obtain ⟨j, hj⟩ : ∃ j, j = i + 1 := ⟨_, rfl⟩
  obtain ⟨k, hk⟩ : ∃ k, k = i + 2 := ⟨_, rfl⟩
  have hik : i ≤ k := by omega
  have hij : i ≤ j := by omega
  have hjl : j ≤ s.length := by omega
  have hil := Nat.le_of_lt hi
  have hw1 : IntKind.wrap .i64 ((i : Int) + 1) = (j : Int) := wrapN (by omega) (by omega)
  have hw2 : IntKind.wrap .i64 ((i : Int) + 2) = (k : Int) := wrapN (by omega) (by omega)
  have hle : (k ≤ s.length) ↔ (j < s.length) := by omega
  refine k21 (viaS sok2 ?_)
  have hp : True := trivial
  repeat' first
    | refine s_seq ?_
    | refine s_skip ?_
    | (refine s_reg fun K hK => ?_; simp +contextual [S2, sp28, sp30, sp19, sp37, sp41, hs, hi, hil, hr1, hr2, hd1, hd2, hw1, hw2, hle, hik, hij, hjl, sub_eq, isL, isD, hp]; refine hK _ ?_; clear hK K)
    | (refine s_regD fun K hK => ?_; simp +contextual [S2, sp28, sp30, sp19, sp37, sp41, hs, hi, hil, hr1, hr2, hd1, hd2, hw1, hw2, hle, hik, hij, hjl, sub_eq, isL, isD, hp]; refine finD rfl ?_; simp; refine hK _ ?_; clear hK K)
    | (refine c_reg fun K hK => ?_; simp +contextual [S2, sp28, sp30, sp19, sp37, sp41, hs, hi, hil, hr1, hr2, hd1, hd2, hw1, hw2, hle, hik, hij, hjl, sub_eq, isL, isD, hp]; refine hK _ ?_; clear hK K)
    | (refine c_regD fun K hK => ?_; simp +contextual [S2, sp28, sp30, sp19, sp37, sp41, hs, hi, hil, hr1, hr2, hd1, hd2, hw1, hw2, hle, hik, hij, hjl, sub_eq, isL, isD, hp]; refine finD rfl ?_; simp; refine hK _ ?_; clear hK K)
    | (refine c_cond rfl (fun h => ?_) (fun h => ?_) <;> (replace hp := And.intro h hp; clear h; try simp only [Bool.eq_false_iff, ne_eq, Bool.and_eq_true, Bool.or_eq_true, Bool.not_eq_true', decide_eq_true_eq, Bool.false_eq_true, Bool.true_eq_false, Decidable.not_not, not_true_eq_false, not_false_eq_true, false_and, true_and] at hp))
    | (refine s_cond rfl (fun h => ?_) (fun h => ?_) <;> (replace hp := And.intro h hp; clear h; try simp only [Bool.eq_false_iff, ne_eq, Bool.and_eq_true, Bool.or_eq_true, Bool.not_eq_true', decide_eq_true_eq, Bool.false_eq_true, Bool.true_eq_false, Decidable.not_not, not_true_eq_false, not_false_eq_true, false_and, true_and] at hp))
    | refine s_block ?_
    | refine c_block ?_
    | refine c_skip ?_
    | refine s_ret ?_
    | refine c_ret ?_
    | refine c_exit ?_
    | refine s_exit ?_
    | refine leave_r ?_
    | refine next_r ?_
    | refine leave_n ?_
    | refine next_n ?_
    | refine next_e ?_
    | refine leave_eq ?_
    | refine leave_ne (by decide) ?_
    | refine hleave .ret _ (by simp) ?_
    | refine hleave (.exit _) _ (by simp) ?_
    | refine c_seq ?_

  all_goals simp [EndA, encT, nextM, twoAt, twos, ones, ← hj, ← hk, hp]
end Go.Proofs.Ytblmmaecklgbhaa
