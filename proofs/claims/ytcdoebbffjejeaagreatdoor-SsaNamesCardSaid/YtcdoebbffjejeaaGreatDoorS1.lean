/- A part of the proof of a law of this seat: no condition. -/
import Derived.Test.YtcdoebbffjejeaaGreatDoorSsaLib
import Derived.Test.YtcdoebbffjejeaaGreatDoorZA
set_option linter.unusedSimpArgs false
set_option linter.unusedVariables false
set_option maxRecDepth 20000
namespace Go.Proofs.YtcdoebbffjejeaaGreatDoor
open Go.Ax
/-- What stands ahead of the first sign. -/
def bas (s : List UInt8) : List UInt8 := s.takeWhile (· != 35)
theorem ix_cases (s : List UInt8) : (Lib.indexByte s 35 = -1 ∧ bas s = s) ∨ ∃ i : Nat, Lib.indexByte s 35 = i ∧ i < s.length ∧ bas s = s.take i := by
  unfold bas
  induction s with
  | nil => left; exact ⟨rfl, rfl⟩
  | cons b l ih =>
    by_cases hb : b = 35
    · subst hb
      right; exact ⟨0, by simp [Lib.indexByte], by simp, by simp⟩
    · have h1 : (b == 35) = false := by simpa using hb
      have h2 : (b != 35) = true := by simpa using hb
      rcases ih with ⟨h, h'⟩ | ⟨i, h, hi, h'⟩
      · left
        exact ⟨by simp [Lib.indexByte, h1, h], by simp [List.takeWhile_cons, h2, h']⟩
      · right
        refine ⟨i + 1, ?_, by simpa using hi, by simp [List.takeWhile_cons, h2, h']⟩
        have h3 : ((i : Int) == -1) = false := by simp
        simp [Lib.indexByte, h1, h, h3]
theorem cut_hit {B : Heap} {s : List UInt8} {i : Nat} (hs : s.length ≤ 140737488355328) (h : Lib.indexByte s 35 = i) (hi : i < s.length) : Ok B 62 [.str s, .str [35]] [] (.tup [.str (s.take i), .str (s.drop (i + 1)), .bool true]) [] [] := by
  have hix := index_ok (B := B) (s := s) (c := 35)
  rw [h] at hix
  have e1 : (0 : Int) ≤ i := by omega
  have e2 : (i : Int) ≤ s.length := by omega
  obtain ⟨j, hj⟩ : ∃ j : Nat, j = i + 1 := ⟨_, rfl⟩
  have e0 : IntKind.wrap .i64 ((i : Int) + 1) = (j : Int) := by rw [IntKind.wrap_i64]; omega
  have e3 : (0 : Int) ≤ j := by omega
  have e4 : (j : Int) ≤ s.length := by omega
  have e5 : (s.length : Int) ≤ 9223372036854775807 := by omega
  rw [← hj]
  refine k62 ?_
  have hp : True := trivial
  repeat' first
    | refine s_seq ?_ | refine s_skip ?_
    | ((first | refine s_reg fun K hK => ?_ | refine s_regD fun K hK => ?_ | refine c_reg fun K hK => ?_ | refine c_regD fun K hK => ?_); simp (maxSteps := 4000000) +contextual [e1, hp]; (try (refine finD rfl ?_; simp)); refine hK _ ?_; clear hK K)
    | ((first | refine c_cond rfl (fun h => ?_) (fun h => ?_) | refine s_cond rfl (fun h => ?_) (fun h => ?_)) <;> (replace hp := And.intro h hp; clear h; try simp only [Bool.eq_false_iff, ne_eq, Bool.and_eq_true, Bool.or_eq_true, Bool.not_eq_true', decide_eq_true_eq, Bool.false_eq_true, Bool.true_eq_false, Decidable.not_not, not_true_eq_false, not_false_eq_true, false_and, true_and] at hp))
    | refine s_block ?_ | refine c_block ?_ | refine c_skip ?_ | refine s_ret ?_ | refine c_ret ?_ | refine c_exit ?_ | refine s_exit ?_ | refine leave_r ?_ | refine next_r ?_ | refine leave_n ?_ | refine next_n ?_ | refine next_e ?_ | refine leave_eq ?_ | refine leave_ne (by decide) ?_ | refine hleave .ret _ (by simp) ?_ | refine hleave (.exit _) _ (by simp) ?_ | refine c_seq ?_
  refine c_reg fun K hK => ?_
  simp (maxSteps := 4000000) +contextual [e1, hp]
  refine callK (hix) (by simp) ?_
  simp (maxSteps := 4000000) +contextual [e1, hp]
  refine hK _ ?_
  clear hK K
  repeat' first
    | refine s_seq ?_ | refine s_skip ?_
    | ((first | refine s_reg fun K hK => ?_ | refine s_regD fun K hK => ?_ | refine c_reg fun K hK => ?_ | refine c_regD fun K hK => ?_); simp (maxSteps := 4000000) +contextual [e0, e1, e2, e3, e4, e5, hp]; (try (refine finD rfl ?_; simp)); refine hK _ ?_; clear hK K)
    | ((first | refine c_cond rfl (fun h => ?_) (fun h => ?_) | refine s_cond rfl (fun h => ?_) (fun h => ?_)) <;> (replace hp := And.intro h hp; clear h; try simp only [Bool.eq_false_iff, ne_eq, Bool.and_eq_true, Bool.or_eq_true, Bool.not_eq_true', decide_eq_true_eq, Bool.false_eq_true, Bool.true_eq_false, Decidable.not_not, not_true_eq_false, not_false_eq_true, false_and, true_and] at hp))
    | refine s_block ?_ | refine c_block ?_ | refine c_skip ?_ | refine s_ret ?_ | refine c_ret ?_ | refine c_exit ?_ | refine s_exit ?_ | refine leave_r ?_ | refine next_r ?_ | refine leave_n ?_ | refine next_n ?_ | refine next_e ?_ | refine leave_eq ?_ | refine leave_ne (by decide) ?_ | refine hleave .ret _ (by simp) ?_ | refine hleave (.exit _) _ (by simp) ?_ | refine c_seq ?_
  all_goals (refine EndP.one rfl ?_; simp [EndA])
theorem cut_miss {B : Heap} {s : List UInt8} (h : Lib.indexByte s 35 = -1) : Ok B 62 [.str s, .str [35]] [] (.tup [.str s, .str [], .bool false]) [] [] := by
  have hix := index_ok (B := B) (s := s) (c := 35)
  rw [h] at hix
  refine k62 ?_
  have hp : True := trivial
  repeat' first
    | refine s_seq ?_ | refine s_skip ?_
    | ((first | refine s_reg fun K hK => ?_ | refine s_regD fun K hK => ?_ | refine c_reg fun K hK => ?_ | refine c_regD fun K hK => ?_); simp (maxSteps := 4000000) +contextual [hp]; (try (refine finD rfl ?_; simp)); refine hK _ ?_; clear hK K)
    | ((first | refine c_cond rfl (fun h => ?_) (fun h => ?_) | refine s_cond rfl (fun h => ?_) (fun h => ?_)) <;> (replace hp := And.intro h hp; clear h; try simp only [Bool.eq_false_iff, ne_eq, Bool.and_eq_true, Bool.or_eq_true, Bool.not_eq_true', decide_eq_true_eq, Bool.false_eq_true, Bool.true_eq_false, Decidable.not_not, not_true_eq_false, not_false_eq_true, false_and, true_and] at hp))
    | refine s_block ?_ | refine c_block ?_ | refine c_skip ?_ | refine s_ret ?_ | refine c_ret ?_ | refine c_exit ?_ | refine s_exit ?_ | refine leave_r ?_ | refine next_r ?_ | refine leave_n ?_ | refine next_n ?_ | refine next_e ?_ | refine leave_eq ?_ | refine leave_ne (by decide) ?_ | refine hleave .ret _ (by simp) ?_ | refine hleave (.exit _) _ (by simp) ?_ | refine c_seq ?_
  refine c_reg fun K hK => ?_
  simp (maxSteps := 4000000) +contextual [hp]
  refine callK (hix) (by simp) ?_
  simp (maxSteps := 4000000) +contextual [hp]
  refine hK _ ?_
  clear hK K
  repeat' first
    | refine s_seq ?_ | refine s_skip ?_
    | ((first | refine s_reg fun K hK => ?_ | refine s_regD fun K hK => ?_ | refine c_reg fun K hK => ?_ | refine c_regD fun K hK => ?_); simp (maxSteps := 4000000) +contextual [hp]; (try (refine finD rfl ?_; simp)); refine hK _ ?_; clear hK K)
    | ((first | refine c_cond rfl (fun h => ?_) (fun h => ?_) | refine s_cond rfl (fun h => ?_) (fun h => ?_)) <;> (replace hp := And.intro h hp; clear h; try simp only [Bool.eq_false_iff, ne_eq, Bool.and_eq_true, Bool.or_eq_true, Bool.not_eq_true', decide_eq_true_eq, Bool.false_eq_true, Bool.true_eq_false, Decidable.not_not, not_true_eq_false, not_false_eq_true, false_and, true_and] at hp))
    | refine s_block ?_ | refine c_block ?_ | refine c_skip ?_ | refine s_ret ?_ | refine c_ret ?_ | refine c_exit ?_ | refine s_exit ?_ | refine leave_r ?_ | refine next_r ?_ | refine leave_n ?_ | refine next_n ?_ | refine next_e ?_ | refine leave_eq ?_ | refine leave_ne (by decide) ?_ | refine hleave .ret _ (by simp) ?_ | refine hleave (.exit _) _ (by simp) ?_ | refine c_seq ?_
  all_goals (refine EndP.one rfl ?_; simp [EndA])
theorem Cut_ok {B : Heap} {s a b : List UInt8} {f : Bool} (h : Ok B 62 [.str s, .str [35]] [] (.tup [.str a, .str b, .bool f]) [] []) : Ok B 36 [.str s, .str [35]] [] (.tup [.str a, .str b, .bool f]) [] [] := by
  refine k36 ?_
  have hp : True := trivial
  repeat' first
    | refine s_seq ?_ | refine s_skip ?_
    | ((first | refine s_reg fun K hK => ?_ | refine s_regD fun K hK => ?_ | refine c_reg fun K hK => ?_ | refine c_regD fun K hK => ?_); simp (maxSteps := 4000000) +contextual [hp]; (try (refine finD rfl ?_; simp)); refine hK _ ?_; clear hK K)
    | ((first | refine c_cond rfl (fun h => ?_) (fun h => ?_) | refine s_cond rfl (fun h => ?_) (fun h => ?_)) <;> (replace hp := And.intro h hp; clear h; try simp only [Bool.eq_false_iff, ne_eq, Bool.and_eq_true, Bool.or_eq_true, Bool.not_eq_true', decide_eq_true_eq, Bool.false_eq_true, Bool.true_eq_false, Decidable.not_not, not_true_eq_false, not_false_eq_true, false_and, true_and] at hp))
    | refine s_block ?_ | refine c_block ?_ | refine c_skip ?_ | refine s_ret ?_ | refine c_ret ?_ | refine c_exit ?_ | refine s_exit ?_ | refine leave_r ?_ | refine next_r ?_ | refine leave_n ?_ | refine next_n ?_ | refine next_e ?_ | refine leave_eq ?_ | refine leave_ne (by decide) ?_ | refine hleave .ret _ (by simp) ?_ | refine hleave (.exit _) _ (by simp) ?_ | refine c_seq ?_
  refine s_reg fun K hK => ?_
  simp (maxSteps := 4000000) +contextual [hp]
  refine callK (h) (by simp) ?_
  simp (maxSteps := 4000000) +contextual [hp]
  refine hK _ ?_
  clear hK K
  repeat' first
    | refine s_seq ?_ | refine s_skip ?_
    | ((first | refine s_reg fun K hK => ?_ | refine s_regD fun K hK => ?_ | refine c_reg fun K hK => ?_ | refine c_regD fun K hK => ?_); simp (maxSteps := 4000000) +contextual [hp]; (try (refine finD rfl ?_; simp)); refine hK _ ?_; clear hK K)
    | ((first | refine c_cond rfl (fun h => ?_) (fun h => ?_) | refine s_cond rfl (fun h => ?_) (fun h => ?_)) <;> (replace hp := And.intro h hp; clear h; try simp only [Bool.eq_false_iff, ne_eq, Bool.and_eq_true, Bool.or_eq_true, Bool.not_eq_true', decide_eq_true_eq, Bool.false_eq_true, Bool.true_eq_false, Decidable.not_not, not_true_eq_false, not_false_eq_true, false_and, true_and] at hp))
    | refine s_block ?_ | refine c_block ?_ | refine c_skip ?_ | refine s_ret ?_ | refine c_ret ?_ | refine c_exit ?_ | refine s_exit ?_ | refine leave_r ?_ | refine next_r ?_ | refine leave_n ?_ | refine next_n ?_ | refine next_e ?_ | refine leave_eq ?_ | refine leave_ne (by decide) ?_ | refine hleave .ret _ (by simp) ?_ | refine hleave (.exit _) _ (by simp) ?_ | refine c_seq ?_
  all_goals (refine EndP.one rfl ?_; simp [EndA])
theorem cut_ok {B : Heap} {s : List UInt8} (hs : s.length ≤ 140737488355328) : ∃ b f, Ok B 36 [.str s, .str [35]] [] (.tup [.str (bas s), .str b, .bool f]) [] [] := by
  rcases ix_cases s with ⟨h, h'⟩ | ⟨i, h, hi, h'⟩
  · rw [h']; exact ⟨_, _, Cut_ok (cut_miss h)⟩
  · rw [h']; exact ⟨_, _, Cut_ok (cut_hit hs h hi)⟩
theorem base_ok {B : Heap} {s : List UInt8} (hs : s.length ≤ 140737488355328) : Ok B 17 [.str s] [] (.str (bas s)) [] [] := by
  obtain ⟨b, f, h⟩ := cut_ok (B := B) hs
  refine k17 ?_
  have hp : True := trivial
  repeat' first
    | refine s_seq ?_ | refine s_skip ?_
    | ((first | refine s_reg fun K hK => ?_ | refine s_regD fun K hK => ?_ | refine c_reg fun K hK => ?_ | refine c_regD fun K hK => ?_); simp (maxSteps := 4000000) +contextual [hp]; (try (refine finD rfl ?_; simp)); refine hK _ ?_; clear hK K)
    | ((first | refine c_cond rfl (fun h => ?_) (fun h => ?_) | refine s_cond rfl (fun h => ?_) (fun h => ?_)) <;> (replace hp := And.intro h hp; clear h; try simp only [Bool.eq_false_iff, ne_eq, Bool.and_eq_true, Bool.or_eq_true, Bool.not_eq_true', decide_eq_true_eq, Bool.false_eq_true, Bool.true_eq_false, Decidable.not_not, not_true_eq_false, not_false_eq_true, false_and, true_and] at hp))
    | refine s_block ?_ | refine c_block ?_ | refine c_skip ?_ | refine s_ret ?_ | refine c_ret ?_ | refine c_exit ?_ | refine s_exit ?_ | refine leave_r ?_ | refine next_r ?_ | refine leave_n ?_ | refine next_n ?_ | refine next_e ?_ | refine leave_eq ?_ | refine leave_ne (by decide) ?_ | refine hleave .ret _ (by simp) ?_ | refine hleave (.exit _) _ (by simp) ?_ | refine c_seq ?_
  refine s_reg fun K hK => ?_
  simp (maxSteps := 4000000) +contextual [hp]
  refine callK (h) (by simp) ?_
  simp (maxSteps := 4000000) +contextual [hp]
  refine hK _ ?_
  clear hK K
  repeat' first
    | refine s_seq ?_ | refine s_skip ?_
    | ((first | refine s_reg fun K hK => ?_ | refine s_regD fun K hK => ?_ | refine c_reg fun K hK => ?_ | refine c_regD fun K hK => ?_); simp (maxSteps := 4000000) +contextual [hp]; (try (refine finD rfl ?_; simp)); refine hK _ ?_; clear hK K)
    | ((first | refine c_cond rfl (fun h => ?_) (fun h => ?_) | refine s_cond rfl (fun h => ?_) (fun h => ?_)) <;> (replace hp := And.intro h hp; clear h; try simp only [Bool.eq_false_iff, ne_eq, Bool.and_eq_true, Bool.or_eq_true, Bool.not_eq_true', decide_eq_true_eq, Bool.false_eq_true, Bool.true_eq_false, Decidable.not_not, not_true_eq_false, not_false_eq_true, false_and, true_and] at hp))
    | refine s_block ?_ | refine c_block ?_ | refine c_skip ?_ | refine s_ret ?_ | refine c_ret ?_ | refine c_exit ?_ | refine s_exit ?_ | refine leave_r ?_ | refine next_r ?_ | refine leave_n ?_ | refine next_n ?_ | refine next_e ?_ | refine leave_eq ?_ | refine leave_ne (by decide) ?_ | refine hleave .ret _ (by simp) ?_ | refine hleave (.exit _) _ (by simp) ?_ | refine c_seq ?_
  all_goals (refine EndP.one rfl ?_; simp [EndA])
theorem version_ok {B : Heap} {s : List UInt8} (hs : s.length ≤ 140737488355328) : Ok B 11 [.str s] [] (.str (s ++ [35, 48])) [] [] := by
  have e1 : s.length + 2 ≤ 1000000000000000000 := by omega
  refine k11 ?_
  have hp : True := trivial
  repeat' first
    | refine s_seq ?_ | refine s_skip ?_
    | ((first | refine s_reg fun K hK => ?_ | refine s_regD fun K hK => ?_ | refine c_reg fun K hK => ?_ | refine c_regD fun K hK => ?_); simp (maxSteps := 4000000) +contextual [e1, hp]; (try (refine finD rfl ?_; simp)); refine hK _ ?_; clear hK K)
    | ((first | refine c_cond rfl (fun h => ?_) (fun h => ?_) | refine s_cond rfl (fun h => ?_) (fun h => ?_)) <;> (replace hp := And.intro h hp; clear h; try simp only [Bool.eq_false_iff, ne_eq, Bool.and_eq_true, Bool.or_eq_true, Bool.not_eq_true', decide_eq_true_eq, Bool.false_eq_true, Bool.true_eq_false, Decidable.not_not, not_true_eq_false, not_false_eq_true, false_and, true_and] at hp))
    | refine s_block ?_ | refine c_block ?_ | refine c_skip ?_ | refine s_ret ?_ | refine c_ret ?_ | refine c_exit ?_ | refine s_exit ?_ | refine leave_r ?_ | refine next_r ?_ | refine leave_n ?_ | refine next_n ?_ | refine next_e ?_ | refine leave_eq ?_ | refine leave_ne (by decide) ?_ | refine hleave .ret _ (by simp) ?_ | refine hleave (.exit _) _ (by simp) ?_ | refine c_seq ?_
  all_goals (refine EndP.one rfl ?_; simp [EndA])
theorem bas_at {s : List UInt8} {j : Nat} (h : j < s.length) (hp : ∀ k, k < j → s.getD k 0 ≠ 35) (he : s.getD j 0 = 35) : bas s = s.take j := by
  unfold bas
  induction s generalizing j with
  | nil => simp at h
  | cons b l ih =>
    cases j with
    | zero => simp at he; simp [he]
    | succ j =>
      have hb : b ≠ 35 := by simpa using hp 0 (by omega)
      have hb2 : (b != 35) = true := by simpa using hb
      rw [List.takeWhile_cons, if_pos hb2, ih (by simpa using h) (fun k hk => by simpa using hp (k + 1) (by omega)) (by simpa using he)]
      rfl
theorem bas_all {s : List UInt8} (hp : ∀ k, k < s.length → s.getD k 0 ≠ 35) : bas s = s := by
  unfold bas
  induction s with
  | nil => rfl
  | cons b l ih =>
    have hb : b ≠ 35 := by simpa using hp 0 (by simp)
    have hb2 : (b != 35) = true := by simpa using hb
    rw [List.takeWhile_cons, if_pos hb2, ih (fun k hk => by simpa using hp (k + 1) (by simpa using hk))]
theorem refbase_ok {B : Heap} {s : List UInt8} (hs : s.length ≤ 140737488355328) : Ok B 18 [.str s] [] (.str (bas s)) [] [] := by
  have e5 : (s.length : Int) ≤ 9223372036854775807 := by omega
  refine k18 ?_
  have hp : True := trivial
  repeat' first
    | refine s_seq ?_ | refine s_skip ?_
    | ((first | refine s_reg fun K hK => ?_ | refine s_regD fun K hK => ?_ | refine c_reg fun K hK => ?_ | refine c_regD fun K hK => ?_); simp (maxSteps := 4000000) +contextual [hp]; (try (refine finD rfl ?_; simp)); refine hK _ ?_; clear hK K)
    | ((first | refine c_cond rfl (fun h => ?_) (fun h => ?_) | refine s_cond rfl (fun h => ?_) (fun h => ?_)) <;> (replace hp := And.intro h hp; clear h; try simp only [Bool.eq_false_iff, ne_eq, Bool.and_eq_true, Bool.or_eq_true, Bool.not_eq_true', decide_eq_true_eq, Bool.false_eq_true, Bool.true_eq_false, Decidable.not_not, not_true_eq_false, not_false_eq_true, false_and, true_and] at hp))
    | refine s_block ?_ | refine c_block ?_ | refine c_skip ?_ | refine s_ret ?_ | refine c_ret ?_ | refine c_exit ?_ | refine s_exit ?_ | refine leave_r ?_ | refine next_r ?_ | refine leave_n ?_ | refine next_n ?_ | refine next_e ?_ | refine leave_eq ?_ | refine leave_ne (by decide) ?_ | refine hleave .ret _ (by simp) ?_ | refine hleave (.exit _) _ (by simp) ?_ | refine c_seq ?_
  refine c_loopI (fun (j : Nat) => (⟨[(0, .str s), (3, .int .i64 j)], []⟩ : St)) (fun j => j ≤ s.length ∧ ∀ k, k < j → s.getD k 0 ≠ 35) (fun j => s.length - j) 0 (by simp) ⟨Nat.zero_le _, fun k hk => by omega⟩ (fun j K' hj hnext hleave => ?_)
  obtain ⟨hj, hall⟩ := hj
  by_cases hlt : j < s.length
  · have e6 : (j : Int) < s.length := by omega
    obtain ⟨j', hj'⟩ : ∃ k : Nat, k = j + 1 := ⟨_, rfl⟩
    have e7 : IntKind.wrap .i64 ((j : Int) + 1) = (j' : Int) := by rw [IntKind.wrap_i64]; omega
    have e8 : (j : Int) ≤ s.length := by omega
    have e9 : (0 : Int) ≤ j := by omega
    have h0 : byteAt s j = s.getD j 0 := rfl
    repeat' first
      | refine s_seq ?_ | refine s_skip ?_
      | ((first | refine s_reg fun K hK => ?_ | refine s_regD fun K hK => ?_ | refine c_reg fun K hK => ?_ | refine c_regD fun K hK => ?_); simp (maxSteps := 4000000) +contextual [hlt, e6, e7, e5, e8, e9, hp]; (try (refine finD rfl ?_; simp)); refine hK _ ?_; clear hK K)
      | ((first | refine c_cond rfl (fun h => ?_) (fun h => ?_) | refine s_cond rfl (fun h => ?_) (fun h => ?_)) <;> (replace hp := And.intro h hp; clear h; try simp only [Bool.eq_false_iff, ne_eq, Bool.and_eq_true, Bool.or_eq_true, Bool.not_eq_true', decide_eq_true_eq, Bool.false_eq_true, Bool.true_eq_false, Decidable.not_not, not_true_eq_false, not_false_eq_true, false_and, true_and] at hp))
      | refine s_block ?_ | refine c_block ?_ | refine c_skip ?_ | refine s_ret ?_ | refine c_ret ?_ | refine c_exit ?_ | refine s_exit ?_ | refine leave_r ?_ | refine next_r ?_ | refine leave_n ?_ | refine next_n ?_ | refine next_e ?_ | refine leave_eq ?_ | refine leave_ne (by decide) ?_ | refine hleave .ret _ (by simp) ?_ | refine hleave (.exit _) _ (by simp) ?_ | refine c_seq ?_
    · have h1 : s.getD j 0 = 35 := by
        rw [← h0]; apply UInt8.toNat_inj.1; have := hp.1; simpa using (by omega : (byteAt s j).toNat = 35)
      rw [bas_at hlt hall h1]
      refine EndP.one rfl ?_
      simp [EndA]
    · refine hnext _ j' (by simp) ⟨by omega, fun k hk => ?_⟩ (by omega)
      by_cases h : k = j
      · subst h; rw [← h0]; intro h2; apply hp.1; rw [h2]; rfl
      · exact hall k (by omega)
  · have e6 : ¬ (j : Int) < s.length := by omega
    obtain rfl : j = s.length := by omega
    repeat' first
      | refine s_seq ?_ | refine s_skip ?_
      | ((first | refine s_reg fun K hK => ?_ | refine s_regD fun K hK => ?_ | refine c_reg fun K hK => ?_ | refine c_regD fun K hK => ?_); simp (maxSteps := 4000000) +contextual [hlt, e6, hp]; (try (refine finD rfl ?_; simp)); refine hK _ ?_; clear hK K)
      | ((first | refine c_cond rfl (fun h => ?_) (fun h => ?_) | refine s_cond rfl (fun h => ?_) (fun h => ?_)) <;> (replace hp := And.intro h hp; clear h; try simp only [Bool.eq_false_iff, ne_eq, Bool.and_eq_true, Bool.or_eq_true, Bool.not_eq_true', decide_eq_true_eq, Bool.false_eq_true, Bool.true_eq_false, Decidable.not_not, not_true_eq_false, not_false_eq_true, false_and, true_and] at hp))
      | refine s_block ?_ | refine c_block ?_ | refine c_skip ?_ | refine s_ret ?_ | refine c_ret ?_ | refine c_exit ?_ | refine s_exit ?_ | refine leave_r ?_ | refine next_r ?_ | refine leave_n ?_ | refine next_n ?_ | refine next_e ?_ | refine leave_eq ?_ | refine leave_ne (by decide) ?_ | refine hleave .ret _ (by simp) ?_ | refine hleave (.exit _) _ (by simp) ?_ | refine c_seq ?_
    rw [bas_all hall]
    refine EndP.one rfl ?_
    simp [EndA]
theorem names_ok {B : Heap} (hA : Ok B 8 [] [] (.bool true) [] []) {s : List UInt8} (hs : s.length ≤ 140737488355328) : Ok B 5 [.str s] [] (.bool true) [] [] := by
  have e1 : s.length + 2 ≤ 1000000000000000000 := by omega
  refine k5 ?_
  have hp : True := trivial
  repeat' first
    | refine s_seq ?_ | refine s_skip ?_
    | ((first | refine s_reg fun K hK => ?_ | refine s_regD fun K hK => ?_ | refine c_reg fun K hK => ?_ | refine c_regD fun K hK => ?_); simp (maxSteps := 4000000) +contextual [hp]; (try (refine finD rfl ?_; simp)); refine hK _ ?_; clear hK K)
    | ((first | refine c_cond rfl (fun h => ?_) (fun h => ?_) | refine s_cond rfl (fun h => ?_) (fun h => ?_)) <;> (replace hp := And.intro h hp; clear h; try simp only [Bool.eq_false_iff, ne_eq, Bool.and_eq_true, Bool.or_eq_true, Bool.not_eq_true', decide_eq_true_eq, Bool.false_eq_true, Bool.true_eq_false, Decidable.not_not, not_true_eq_false, not_false_eq_true, false_and, true_and] at hp))
    | refine s_block ?_ | refine c_block ?_ | refine c_skip ?_ | refine s_ret ?_ | refine c_ret ?_ | refine c_exit ?_ | refine s_exit ?_ | refine leave_r ?_ | refine next_r ?_ | refine leave_n ?_ | refine next_n ?_ | refine next_e ?_ | refine leave_eq ?_ | refine leave_ne (by decide) ?_ | refine hleave .ret _ (by simp) ?_ | refine hleave (.exit _) _ (by simp) ?_ | refine c_seq ?_
  refine c_reg fun K hK => ?_
  simp (maxSteps := 4000000) +contextual [hp]
  refine callK (hA) (by simp) ?_
  simp (maxSteps := 4000000) +contextual [hp]
  refine hK _ ?_
  clear hK K
  repeat' first
    | refine s_seq ?_ | refine s_skip ?_
    | ((first | refine s_reg fun K hK => ?_ | refine s_regD fun K hK => ?_ | refine c_reg fun K hK => ?_ | refine c_regD fun K hK => ?_); simp (maxSteps := 4000000) +contextual [hp]; (try (refine finD rfl ?_; simp)); refine hK _ ?_; clear hK K)
    | ((first | refine c_cond rfl (fun h => ?_) (fun h => ?_) | refine s_cond rfl (fun h => ?_) (fun h => ?_)) <;> (replace hp := And.intro h hp; clear h; try simp only [Bool.eq_false_iff, ne_eq, Bool.and_eq_true, Bool.or_eq_true, Bool.not_eq_true', decide_eq_true_eq, Bool.false_eq_true, Bool.true_eq_false, Decidable.not_not, not_true_eq_false, not_false_eq_true, false_and, true_and] at hp))
    | refine s_block ?_ | refine c_block ?_ | refine c_skip ?_ | refine s_ret ?_ | refine c_ret ?_ | refine c_exit ?_ | refine s_exit ?_ | refine leave_r ?_ | refine next_r ?_ | refine leave_n ?_ | refine next_n ?_ | refine next_e ?_ | refine leave_eq ?_ | refine leave_ne (by decide) ?_ | refine hleave .ret _ (by simp) ?_ | refine hleave (.exit _) _ (by simp) ?_ | refine c_seq ?_
  refine s_reg fun K hK => ?_
  simp (maxSteps := 4000000) +contextual [e1, hp]
  refine callK (version_ok (B := B) hs) (by simp) ?_
  simp (maxSteps := 4000000) +contextual [e1, hp]
  refine callK (base_ok (B := B) hs) (by simp) ?_
  simp (maxSteps := 4000000) +contextual [e1, hp]
  refine callK (refbase_ok (B := B) hs) (by simp) ?_
  simp (maxSteps := 4000000) +contextual [e1, hp]
  refine hK _ ?_
  clear hK K
  repeat' first
    | refine s_seq ?_ | refine s_skip ?_
    | ((first | refine s_reg fun K hK => ?_ | refine s_regD fun K hK => ?_ | refine c_reg fun K hK => ?_ | refine c_regD fun K hK => ?_); simp (maxSteps := 4000000) +contextual [hp]; (try (refine finD rfl ?_; simp)); refine hK _ ?_; clear hK K)
    | ((first | refine c_cond rfl (fun h => ?_) (fun h => ?_) | refine s_cond rfl (fun h => ?_) (fun h => ?_)) <;> (replace hp := And.intro h hp; clear h; try simp only [Bool.eq_false_iff, ne_eq, Bool.and_eq_true, Bool.or_eq_true, Bool.not_eq_true', decide_eq_true_eq, Bool.false_eq_true, Bool.true_eq_false, Decidable.not_not, not_true_eq_false, not_false_eq_true, false_and, true_and] at hp))
    | refine s_block ?_ | refine c_block ?_ | refine c_skip ?_ | refine s_ret ?_ | refine c_ret ?_ | refine c_exit ?_ | refine s_exit ?_ | refine leave_r ?_ | refine next_r ?_ | refine leave_n ?_ | refine next_n ?_ | refine next_e ?_ | refine leave_eq ?_ | refine leave_ne (by decide) ?_ | refine hleave .ret _ (by simp) ?_ | refine hleave (.exit _) _ (by simp) ?_ | refine c_seq ?_
  all_goals (refine EndP.one rfl ?_; simp [EndA])
end Go.Proofs.YtcdoebbffjejeaaGreatDoor
