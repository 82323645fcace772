/- A part of the proof of a law of this seat: no condition. -/
import Derived.Test.YtblmmaecklgbhaaL4
set_option linter.unusedSimpArgs false
set_option linter.unusedVariables false
set_option maxRecDepth 20000
namespace Go.Proofs.Ytblmmaecklgbhaa
open Go.Ax
variable {B : Heap}
def twosL : List (List UInt8) := [[61, 61], [33, 61], [60, 61], [62, 61], [38, 38], [124, 124], [61, 62]]
def onesL : List (List UInt8) := [[40], [41], [123], [125], [91], [93], [44], [59], [58], [46], [61], [60], [62], [43], [45], [42], [47], [37], [33], [124], [63]]
def signN (s : List UInt8) (i : Nat) : Nat := if (i + 2 ≤ s.length ∧ twosL.contains (sub s i (i + 2)) = true) then 2 else if onesL.contains (sub s i (i + 1)) = true then 1 else 0
def sp25 : Sp
  | [.str s, .int .i64 i], [] => if 0 ≤ i ∧ i < s.length ∧ s.length < 100000000 then some (nV (signN s i.toNat), [], []) else none
  | _, _ => none
theorem sign_ok {s : List UInt8} {i : Nat} (hs : s.length < 100000000) (hi : i < s.length) : Ok B 25 [.str s, nV i] [] (nV (signN s i)) [] [] := by
  obtain ⟨j, hj⟩ : ∃ j, j = i + 1 := ⟨_, rfl⟩
  obtain ⟨k, hk⟩ : ∃ k, k = i + 2 := ⟨_, rfl⟩
  have hik : i ≤ k := by omega
  have hij : i ≤ j := by omega
  have hjl : j ≤ s.length := by omega
  have hw1 : IntKind.wrap .i64 ((i : Int) + 1) = (j : Int) := wrapN (by omega) (by omega)
  have hw2 : IntKind.wrap .i64 ((i : Int) + 2) = (k : Int) := wrapN (by omega) (by omega)
  refine k25 (viaS (.cons fn26 .nil) ?_)
  have hp : True := trivial
  repeat' first
    | refine s_seq ?_
    | refine s_skip ?_
    | (refine s_reg fun K hK => ?_; simp +contextual [lookS, sp26, hi, hik, hij, hjl, hw1, hw2, sub_eq, hp]; refine hK _ ?_; clear hK K)
    | (refine s_regD fun K hK => ?_; simp +contextual [lookS, sp26, hi, hik, hij, hjl, hw1, hw2, sub_eq, hp]; refine finD rfl ?_; simp; refine hK _ ?_; clear hK K)
    | (refine c_reg fun K hK => ?_; simp +contextual [lookS, sp26, hi, hik, hij, hjl, hw1, hw2, sub_eq, hp]; refine hK _ ?_; clear hK K)
    | (refine c_regD fun K hK => ?_; simp +contextual [lookS, sp26, hi, hik, hij, hjl, hw1, hw2, sub_eq, hp]; refine finD rfl ?_; simp; refine hK _ ?_; clear hK K)
    | (refine c_cond rfl (fun h => ?_) (fun h => ?_) <;> (replace hp := And.intro h hp; clear h; try simp only [Bool.eq_false_iff, ne_eq, Bool.and_eq_true, Bool.or_eq_true, Bool.not_eq_true', decide_eq_true_eq, Decidable.not_not, not_true_eq_false, false_and, true_and] at hp))
    | (refine s_cond rfl (fun h => ?_) (fun h => ?_) <;> (replace hp := And.intro h hp; clear h; try simp only [Bool.eq_false_iff, ne_eq, Bool.and_eq_true, Bool.or_eq_true, Bool.not_eq_true', decide_eq_true_eq, Decidable.not_not, not_true_eq_false, false_and, true_and] at hp))
    | refine s_block ?_
    | refine c_block ?_
    | refine c_skip ?_
    | refine s_ret ?_
    | refine c_ret ?_
    | refine c_exit ?_
    | refine s_exit ?_
    | refine leave_r ?_
    | refine next_r ?_
    | refine leave_n ?_
    | refine next_n ?_
    | refine next_e ?_
    | refine leave_eq ?_
    | refine leave_ne (by decide) ?_
    | refine hleave .ret _ (by simp) ?_
    | refine hleave (.exit _) _ (by simp) ?_
    | refine c_seq ?_

  all_goals simp [EndA, signN, twosL, onesL, ← hj, ← hk]
  · rw [if_pos hp.1]; rfl
  · rw [if_neg hp.2.1, if_pos hp.1]; rfl
  · rw [if_neg hp.2.1, if_neg hp.1]; rfl
theorem fn25 : FnOk Try.prog B 25 sp25 := by
  intro args objs r objs' news h
  unfold sp25 at h
  split at h
  · rename_i s i
    split at h
    · rename_i hc
      obtain ⟨n, rfl⟩ : ∃ n : Nat, i = n := ⟨i.toNat, by omega⟩
      cases h
      simp only [Int.toNat_natCast]
      exact sign_ok hc.2.2 (by omega)
    · cases h
  · cases h
def spanP (b : Bool) (c : UInt8) : Bool := decide (kindI c.toNat = 2) || (b && decide (kindI c.toNat = 1))
def sp24 : Sp
  | [.str s, .int .i64 i, .bool b], [] => if 0 ≤ i ∧ i ≤ s.length ∧ s.length < 100000000 then some (nV (runN (spanP b) s i.toNat), [], []) else none
  | _, _ => none
theorem span_ok {s : List UInt8} {i : Nat} {b : Bool} (hs : s.length < 100000000) (hi : i ≤ s.length) : Ok B 24 [.str s, nV i, .bool b] [] (nV (runN (spanP b) s i)) [] [] := by
  refine k24 (viaS (.cons fn23 .nil) ?_)
  have hp : True := trivial
  repeat' first
    | refine s_seq ?_
    | refine s_skip ?_
    | (refine s_reg fun K hK => ?_; simp +contextual [lookS, sp23, hp]; refine hK _ ?_; clear hK K)
    | (refine s_regD fun K hK => ?_; simp +contextual [lookS, sp23, hp]; refine finD rfl ?_; simp; refine hK _ ?_; clear hK K)
    | (refine c_reg fun K hK => ?_; simp +contextual [lookS, sp23, hp]; refine hK _ ?_; clear hK K)
    | (refine c_regD fun K hK => ?_; simp +contextual [lookS, sp23, hp]; refine finD rfl ?_; simp; refine hK _ ?_; clear hK K)
    | (refine c_cond rfl (fun h => ?_) (fun h => ?_) <;> (replace hp := And.intro h hp; clear h; try simp only [Bool.eq_false_iff, ne_eq, Bool.and_eq_true, Bool.or_eq_true, Bool.not_eq_true', decide_eq_true_eq, Decidable.not_not, not_true_eq_false, false_and, true_and] at hp))
    | (refine s_cond rfl (fun h => ?_) (fun h => ?_) <;> (replace hp := And.intro h hp; clear h; try simp only [Bool.eq_false_iff, ne_eq, Bool.and_eq_true, Bool.or_eq_true, Bool.not_eq_true', decide_eq_true_eq, Decidable.not_not, not_true_eq_false, false_and, true_and] at hp))
    | refine s_block ?_
    | refine c_block ?_
    | refine c_skip ?_
    | refine s_ret ?_
    | refine c_ret ?_
    | refine c_exit ?_
    | refine s_exit ?_
    | refine leave_r ?_
    | refine next_r ?_
    | refine leave_n ?_
    | refine next_n ?_
    | refine next_e ?_
    | refine leave_eq ?_
    | refine leave_ne (by decide) ?_
    | refine hleave .ret _ (by simp) ?_
    | refine hleave (.exit _) _ (by simp) ?_
    | refine c_seq ?_

  refine c_loopI (fun (n : Nat) => (⟨[(0, .str s), (1, nV n), (2, .bool b)], []⟩ : St)) (fun n => n ≤ s.length ∧ runN (spanP b) s n = runN (spanP b) s i) (fun n => s.length - n) i (by simp) ⟨hi, rfl⟩ (fun n K' hn hnext hleave => ?_)
  have hp : True := trivial
  repeat' first
    | refine s_seq ?_
    | refine s_skip ?_
    | (refine s_reg fun K hK => ?_; simp +contextual [lookS, sp23, hp]; refine hK _ ?_; clear hK K)
    | (refine s_regD fun K hK => ?_; simp +contextual [lookS, sp23, hp]; refine finD rfl ?_; simp; refine hK _ ?_; clear hK K)
    | (refine c_reg fun K hK => ?_; simp +contextual [lookS, sp23, hp]; refine hK _ ?_; clear hK K)
    | (refine c_regD fun K hK => ?_; simp +contextual [lookS, sp23, hp]; refine finD rfl ?_; simp; refine hK _ ?_; clear hK K)
    | (refine c_cond rfl (fun h => ?_) (fun h => ?_) <;> (replace hp := And.intro h hp; clear h; try simp only [Bool.eq_false_iff, ne_eq, Bool.and_eq_true, Bool.or_eq_true, Bool.not_eq_true', decide_eq_true_eq, Decidable.not_not, not_true_eq_false, false_and, true_and] at hp))
    | (refine s_cond rfl (fun h => ?_) (fun h => ?_) <;> (replace hp := And.intro h hp; clear h; try simp only [Bool.eq_false_iff, ne_eq, Bool.and_eq_true, Bool.or_eq_true, Bool.not_eq_true', decide_eq_true_eq, Decidable.not_not, not_true_eq_false, false_and, true_and] at hp))
    | refine s_block ?_
    | refine c_block ?_
    | refine c_skip ?_
    | refine s_ret ?_
    | refine c_ret ?_
    | refine c_exit ?_
    | refine s_exit ?_
    | refine leave_r ?_
    | refine next_r ?_
    | refine leave_n ?_
    | refine next_n ?_
    | refine next_e ?_
    | refine leave_eq ?_
    | refine leave_ne (by decide) ?_
    | refine hleave .ret _ (by simp) ?_
    | refine hleave (.exit _) _ (by simp) ?_
    | refine c_seq ?_

  · refine hnext _ (n + 1) (by simp [wrapN (n := (n : Int) + 1) (m := n + 1) (by omega) (by omega)]) ⟨by have := hp.1.1; omega, ?_⟩ (by have := hp.1.1; omega)
    rw [← hn.2, runN_step hp.1.1, if_pos (by simpa [spanP] using hp.1.2)]
  · have e : runN (spanP b) s i = n := by
      rw [← hn.2]
      by_cases h : n < s.length
      · rw [runN_step h, if_neg (fun hh => hp.1 ⟨h, by simpa [spanP] using hh⟩)]
      · rw [runN_end (by omega)]
    simp [EndA, e]
theorem fn24 : FnOk Try.prog B 24 sp24 := by
  intro args objs r objs' news h
  unfold sp24 at h
  split at h
  · rename_i s i b
    split at h
    · rename_i hc
      obtain ⟨n, rfl⟩ : ∃ n : Nat, i = n := ⟨i.toNat, by omega⟩
      cases h
      simp only [Int.toNat_natCast]
      exact span_ok hc.2.2 (by omega)
    · cases h
  · cases h
/-- Past what stands between tokens. -/
def skipA (s : List UInt8) (i : Nat) : Nat :=
  if i < s.length then
    if kindI (byteAt s i).toNat = 3 then skipA s (i + 1)
    else if (s.length : Int) < (i + 2 : Nat) ∨ ¬ sub s i (i + 2) = [47, 47] then i
    else skipA s (max (i + 1) (runN (ofI notEndI) s i))
  else i
termination_by s.length - i
theorem skip_ok {s : List UInt8} {i : Nat} (hs : s.length < 100000000) (hi : i ≤ s.length) : Ok B 22 [.str s, nV i] [] (nV (skipA s i)) [] [] := by
  refine k22 (viaS (.cons fn23 .nil) ?_)
  have hp : True := trivial
  repeat' first
    | refine s_seq ?_
    | refine s_skip ?_
    | (refine s_reg fun K hK => ?_; simp +contextual [lookS, sp23, hp]; refine hK _ ?_; clear hK K)
    | (refine s_regD fun K hK => ?_; simp +contextual [lookS, sp23, hp]; refine finD rfl ?_; simp; refine hK _ ?_; clear hK K)
    | (refine c_reg fun K hK => ?_; simp +contextual [lookS, sp23, hp]; refine hK _ ?_; clear hK K)
    | (refine c_regD fun K hK => ?_; simp +contextual [lookS, sp23, hp]; refine finD rfl ?_; simp; refine hK _ ?_; clear hK K)
    | (refine c_cond rfl (fun h => ?_) (fun h => ?_) <;> (replace hp := And.intro h hp; clear h; try simp only [Bool.eq_false_iff, ne_eq, Bool.and_eq_true, Bool.or_eq_true, Bool.not_eq_true', decide_eq_true_eq, Decidable.not_not, not_true_eq_false, false_and, true_and] at hp))
    | (refine s_cond rfl (fun h => ?_) (fun h => ?_) <;> (replace hp := And.intro h hp; clear h; try simp only [Bool.eq_false_iff, ne_eq, Bool.and_eq_true, Bool.or_eq_true, Bool.not_eq_true', decide_eq_true_eq, Decidable.not_not, not_true_eq_false, false_and, true_and] at hp))
    | refine s_block ?_
    | refine c_block ?_
    | refine c_skip ?_
    | refine s_ret ?_
    | refine c_ret ?_
    | refine c_exit ?_
    | refine s_exit ?_
    | refine leave_r ?_
    | refine next_r ?_
    | refine leave_n ?_
    | refine next_n ?_
    | refine next_e ?_
    | refine leave_eq ?_
    | refine leave_ne (by decide) ?_
    | refine hleave .ret _ (by simp) ?_
    | refine hleave (.exit _) _ (by simp) ?_
    | refine c_seq ?_

  refine c_loopI (fun (n : Nat) => (⟨[(0, .str s), (1, nV n)], []⟩ : St)) (fun n => n ≤ s.length ∧ skipA s n = skipA s i) (fun n => s.length - n) i (by simp) ⟨hi, rfl⟩ (fun n K' hn hnext hleave => ?_)
  obtain ⟨j, hj⟩ : ∃ j, j = n + 1 := ⟨_, rfl⟩
  obtain ⟨k, hk⟩ : ∃ k, k = n + 2 := ⟨_, rfl⟩
  obtain ⟨hn1, hn2⟩ := hn
  have hnk : n ≤ k := by omega
  have hw1 : IntKind.wrap .i64 ((n : Int) + 1) = (j : Int) := wrapN (by omega) (by omega)
  have hw2 : IntKind.wrap .i64 ((n : Int) + 2) = (k : Int) := wrapN (by omega) (by omega)
  have fin1 : kindI (byteAt s n).toNat = 3 → n < s.length → skipA s j = skipA s i := fun h1 h2 => by
    rw [← hn2, skipA.eq_1 s n, if_pos h2, if_pos h1, hj]
  have fin2 : ((s.length : Int) < (k : Nat) ∨ ¬ sub s n k = [47, 47]) → ¬ kindI (byteAt s n).toNat = 3 → n < s.length → skipA s i = n := fun h1 h2 h3 => by
    rw [← hn2, skipA.eq_1 s n, if_pos h3, if_neg h2, ← hk, if_pos h1]
  rcases Nat.lt_or_ge s.length k with hkl | hkl
  · have hkl2 : ¬ k ≤ s.length := by omega
    repeat' first
      | refine s_seq ?_
      | refine s_skip ?_
      | (refine s_reg fun K hK => ?_; simp +contextual [lookS, sp23, hn1, hnk, hw1, hw2, hkl, hkl2, sub_eq, hp]; refine hK _ ?_; clear hK K)
      | (refine s_regD fun K hK => ?_; simp +contextual [lookS, sp23, hn1, hnk, hw1, hw2, hkl, hkl2, sub_eq, hp]; refine finD rfl ?_; simp; refine hK _ ?_; clear hK K)
      | (refine c_reg fun K hK => ?_; simp +contextual [lookS, sp23, hn1, hnk, hw1, hw2, hkl, hkl2, sub_eq, hp]; refine hK _ ?_; clear hK K)
      | (refine c_regD fun K hK => ?_; simp +contextual [lookS, sp23, hn1, hnk, hw1, hw2, hkl, hkl2, sub_eq, hp]; refine finD rfl ?_; simp; refine hK _ ?_; clear hK K)
      | (refine c_cond rfl (fun h => ?_) (fun h => ?_) <;> (replace hp := And.intro h hp; clear h; try simp only [Bool.eq_false_iff, ne_eq, Bool.and_eq_true, Bool.or_eq_true, Bool.not_eq_true', decide_eq_true_eq, Decidable.not_not, not_true_eq_false, false_and, true_and] at hp))
      | (refine s_cond rfl (fun h => ?_) (fun h => ?_) <;> (replace hp := And.intro h hp; clear h; try simp only [Bool.eq_false_iff, ne_eq, Bool.and_eq_true, Bool.or_eq_true, Bool.not_eq_true', decide_eq_true_eq, Decidable.not_not, not_true_eq_false, false_and, true_and] at hp))
      | refine s_block ?_
      | refine c_block ?_
      | refine c_skip ?_
      | refine s_ret ?_
      | refine c_ret ?_
      | refine c_exit ?_
      | refine s_exit ?_
      | refine leave_r ?_
      | refine next_r ?_
      | refine leave_n ?_
      | refine next_n ?_
      | refine next_e ?_
      | refine leave_eq ?_
      | refine leave_ne (by decide) ?_
      | refine hleave .ret _ (by simp) ?_
      | refine hleave (.exit _) _ (by simp) ?_
      | refine c_seq ?_

    · exact hnext _ j (by simp) ⟨by have := hp.2.1; omega, fin1 hp.1 hp.2.1⟩ (by have := hp.2.1; omega)
    · have e := fin2 (.inl (by omega)) hp.1 hp.2.1
      simp [EndA, e]
    · have e : skipA s i = n := by rw [← hn2, skipA.eq_1 s n, if_neg hp.1]
      simp [EndA, e]
  · have hkl2 : ¬ s.length < k := by omega
    repeat' first
      | refine s_seq ?_
      | refine s_skip ?_
      | (refine s_reg fun K hK => ?_; simp +contextual [lookS, sp23, hn1, hnk, hw1, hw2, hkl, hkl2, sub_eq, hp]; refine hK _ ?_; clear hK K)
      | (refine s_regD fun K hK => ?_; simp +contextual [lookS, sp23, hn1, hnk, hw1, hw2, hkl, hkl2, sub_eq, hp]; refine finD rfl ?_; simp; refine hK _ ?_; clear hK K)
      | (refine c_reg fun K hK => ?_; simp +contextual [lookS, sp23, hn1, hnk, hw1, hw2, hkl, hkl2, sub_eq, hp]; refine hK _ ?_; clear hK K)
      | (refine c_regD fun K hK => ?_; simp +contextual [lookS, sp23, hn1, hnk, hw1, hw2, hkl, hkl2, sub_eq, hp]; refine finD rfl ?_; simp; refine hK _ ?_; clear hK K)
      | (refine c_cond rfl (fun h => ?_) (fun h => ?_) <;> (replace hp := And.intro h hp; clear h; try simp only [Bool.eq_false_iff, ne_eq, Bool.and_eq_true, Bool.or_eq_true, Bool.not_eq_true', decide_eq_true_eq, Decidable.not_not, not_true_eq_false, false_and, true_and] at hp))
      | (refine s_cond rfl (fun h => ?_) (fun h => ?_) <;> (replace hp := And.intro h hp; clear h; try simp only [Bool.eq_false_iff, ne_eq, Bool.and_eq_true, Bool.or_eq_true, Bool.not_eq_true', decide_eq_true_eq, Decidable.not_not, not_true_eq_false, false_and, true_and] at hp))
      | refine s_block ?_
      | refine c_block ?_
      | refine c_skip ?_
      | refine s_ret ?_
      | refine c_ret ?_
      | refine c_exit ?_
      | refine s_exit ?_
      | refine leave_r ?_
      | refine next_r ?_
      | refine leave_n ?_
      | refine next_n ?_
      | refine next_e ?_
      | refine leave_eq ?_
      | refine leave_ne (by decide) ?_
      | refine hleave .ret _ (by simp) ?_
      | refine hleave (.exit _) _ (by simp) ?_
      | refine c_seq ?_

    · exact hnext _ j (by simp) ⟨by have := hp.2.1; omega, fin1 hp.1 hp.2.1⟩ (by have := hp.2.1; omega)
    · have e := fin2 (.inr hp.1) hp.2.1 hp.2.2.1
      simp [EndA, e]
    · have hlt := hp.2.2.1
      have fin3 : skipA s (runN (ofI notEndI) s n) = skipA s i := by
        have hne : ofI notEndI (byteAt s n) = true := by
          have h2 := hp.1
          rw [sub, List.drop_take, drop_nth hlt, hk, show n + 2 - n = 2 by omega] at h2
          have hb : nth s n = byteAt s n := rfl
          rw [hb] at h2
          have h3 : byteAt s n = 47 := by
            cases hd : s.drop (n + 1) with
            | nil => rw [hd] at h2; simp at h2
            | cons a r => rw [hd] at h2; simp at h2; exact h2.1
          rw [h3]; decide
        rw [← hn2, skipA.eq_1 s n, if_pos hlt, if_neg hp.2.1, if_neg, Nat.max_eq_right (runN_pos hlt hne)]
        rw [← hk]
        intro h
        rcases h with h | h
        · omega
        · exact h hp.1
      have hle2 := runN_lt (ofI notEndI) hn1
      have hge2 : n + 1 ≤ runN (ofI notEndI) s n ∨ runN (ofI notEndI) s n = n := by have := runN_le (ofI notEndI) s n; omega
      refine c_loopI (fun (n : Nat) => (⟨[(0, .str s), (1, nV n)], []⟩ : St)) (fun y => n ≤ y ∧ y ≤ s.length ∧ runN (ofI notEndI) s y = runN (ofI notEndI) s n) (fun y => s.length - y) n (by simp) ⟨by omega, by omega, rfl⟩ (fun y K2 hy hnext2 hleave => ?_)
      obtain ⟨hy1, hy2, hy3⟩ := hy
      repeat' first
        | refine s_seq ?_
        | refine s_skip ?_
        | (refine s_reg fun K hK => ?_; simp +contextual [hp]; refine hK _ ?_; clear hK K)
        | (refine s_regD fun K hK => ?_; simp +contextual [hp]; refine finD rfl ?_; simp; refine hK _ ?_; clear hK K)
        | (refine c_reg fun K hK => ?_; simp +contextual [hp]; refine hK _ ?_; clear hK K)
        | (refine c_regD fun K hK => ?_; simp +contextual [hp]; refine finD rfl ?_; simp; refine hK _ ?_; clear hK K)
        | (refine c_cond rfl (fun h => ?_) (fun h => ?_) <;> (replace hp := And.intro h hp; clear h; try simp only [Bool.eq_false_iff, ne_eq, Bool.and_eq_true, Bool.or_eq_true, Bool.not_eq_true', decide_eq_true_eq, Decidable.not_not, not_true_eq_false, false_and, true_and] at hp))
        | (refine s_cond rfl (fun h => ?_) (fun h => ?_) <;> (replace hp := And.intro h hp; clear h; try simp only [Bool.eq_false_iff, ne_eq, Bool.and_eq_true, Bool.or_eq_true, Bool.not_eq_true', decide_eq_true_eq, Decidable.not_not, not_true_eq_false, false_and, true_and] at hp))
        | refine s_block ?_
        | refine c_block ?_
        | refine c_skip ?_
        | refine s_ret ?_
        | refine c_ret ?_
        | refine c_exit ?_
        | refine s_exit ?_
        | refine leave_r ?_
        | refine next_r ?_
        | refine leave_n ?_
        | refine next_n ?_
        | refine next_e ?_
        | refine leave_eq ?_
        | refine leave_ne (by decide) ?_
        | refine hleave .ret _ (by simp) ?_
        | refine hleave (.exit _) _ (by simp) ?_
        | refine c_seq ?_

      · refine hnext2 _ (y + 1) (by simp [wrapN (n := (y : Int) + 1) (m := y + 1) (by omega) (by omega)]) ⟨by omega, by have := hp.1.1; omega, ?_⟩ (by have := hp.1.1; omega)
        rw [← hy3, runN_step hp.1.1, if_pos (by simpa [ofI, notEndI] using hp.1.2)]
      · have ey : runN (ofI notEndI) s n = y := by
          rw [← hy3]
          by_cases h : y < s.length
          · rw [runN_step h, if_neg (fun hh => hp.1 ⟨h, by simpa [ofI, notEndI] using hh⟩)]
          · rw [runN_end (by omega)]
        have hny : n < y := by
          rcases hge2 with h | h
          · omega
          · exfalso
            rw [h] at fin3
            have hne := runN_pos hlt (p := ofI notEndI) (by
              have h2 := hp.2.1
              rw [sub, List.drop_take, drop_nth hlt, hk, show n + 2 - n = 2 by omega] at h2
              have hb : nth s n = byteAt s n := rfl
              rw [hb] at h2
              have h3 : byteAt s n = 47 := by
                cases hd : s.drop (n + 1) with
                | nil => rw [hd] at h2; simp at h2
                | cons a r => rw [hd] at h2; simp at h2; exact h2.1
              rw [h3]; decide)
            omega
        refine hnext _ y (by simp) ⟨hy2, ?_⟩ (by omega)
        rw [← ey, fin3]
    · have e : skipA s i = n := by rw [← hn2, skipA.eq_1 s n, if_neg hp.1]
      simp [EndA, e]
def sp22 : Sp
  | [.str s, .int .i64 i], [] => if 0 ≤ i ∧ i ≤ s.length ∧ s.length < 100000000 then some (nV (skipA s i.toNat), [], []) else none
  | _, _ => none
theorem fn22 : FnOk Try.prog B 22 sp22 := by
  intro args objs r objs' news h
  unfold sp22 at h
  split at h
  · rename_i s i
    split at h
    · rename_i hc
      obtain ⟨n, rfl⟩ : ∃ n : Nat, i = n := ⟨i.toNat, by omega⟩
      cases h
      simp only [Int.toNat_natCast]
      exact skip_ok hc.2.2 (by omega)
    · cases h
  · cases h
end Go.Proofs.Ytblmmaecklgbhaa
