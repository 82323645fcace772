/- A part of the proof of a law of this seat: no condition. -/
import Derived.Test.YtblmmaecklgbhaaL5
set_option linter.unusedSimpArgs false
set_option linter.unusedVariables false
set_option maxRecDepth 20000
namespace Go.Proofs.Ytblmmaecklgbhaa
open Go.Ax
variable {B : Heap}
@[simp] theorem mrg_dec {α : Type} [DecidableEq α] (a b : α) : mrg (decide (a = b)) b a = a := by
  by_cases h : a = b <;> simp [mrg, h]
theorem mrg_12 {k : Int} {x y : Bool} : mrg (decide (k = 1)) x (decide (k = 2) && y) = true ↔ (k = 1 ∧ x = true) ∨ (k = 2 ∧ y = true) := by
  by_cases h : k = 1 <;> simp [mrg, h]
def kd (s : List UInt8) (i : Nat) : Int := kindI (byteAt s i).toNat
/-- The token at a place, or the fault. -/
def refM (s : List UInt8) (i : Nat) : Tok × Nat × Nat :=
  let e := runN (spanP (decide (kd s i = 1))) s i
  if kd s i = 0 then (if (signN s i : Int) = 0 then (default, 100, i) else (⟨3, sub s i (i + signN s i), i⟩, 0, 0))
  else if (kd s i = 1 ∧ (40 : Int) < (e : Int) - i) ∨ (kd s i = 2 ∧ (300 : Int) < (e : Int) - i) then (default, 2, i)
  else if kd s i = 2 ∧ ((byteAt s i).toNat : Int) = 48 ∧ (1 : Int) < (e : Int) - i then (default, 10, i)
  else if kd s i = 2 ∧ e < s.length ∧ kd s e = 1 then (default, 100, e)
  else (⟨(kd s i).toNat, sub s i e, i⟩, 0, 0)
def refA (s : List UInt8) (i : Nat) (acc : List Tok) : List Tok × Nat × Nat :=
  if i < s.length then
    if (refM s i).2.1 = 0 then refA s (max (i + 1) (skipA s (i + (refM s i).1.text.length))) (acc ++ [(refM s i).1])
    else ([], (refM s i).2.1, (refM s i).2.2)
  else (acc, 0, 0)
termination_by s.length - i
def refP (s : List UInt8) : List Tok × Nat × Nat := if (65536 : Int) < s.length then ([], 2, 65536) else refA s (skipA s 0) []
def S6 : List (FuncId × Sp) := [(22, sp22), (23, sp23), (24, sp24), (25, sp25)]
theorem sok6 : SOk Try.prog B S6 := .cons fn22 (.cons fn23 (.cons fn24 (.cons fn25 .nil)))
theorem skipA_le {s : List UInt8} : ∀ (n i : Nat), s.length - i ≤ n → i ≤ s.length → i ≤ skipA s i ∧ skipA s i ≤ s.length := by
  intro n
  induction n with
  | zero => intro i h hi; rw [skipA.eq_1, if_neg (by omega)]; omega
  | succ n ih =>
    intro i h hi
    rw [skipA.eq_1]
    split
    · split
      · have := ih (i + 1) (by omega) (by omega); omega
      · split
        · omega
        · have := runN_lt (ofI notEndI) hi
          have := ih (max (i + 1) (runN (ofI notEndI) s i)) (by omega) (by omega); omega
    · omega
theorem skipA_kd {s : List UInt8} : ∀ (n i : Nat), s.length - i ≤ n → skipA s i < s.length → kd s (skipA s i) ≠ 3 ∧ skipA s (skipA s i) = skipA s i := by
  intro n
  induction n with
  | zero => intro i h; rw [skipA.eq_1, if_neg (by omega)]; omega
  | succ n ih =>
    intro i h
    rw [skipA.eq_1 s i]
    split
    · split
      · exact ih (i + 1) (by omega)
      · split
        · rename_i h1 h2 h3
          intro _
          refine ⟨h2, ?_⟩
          rw [skipA.eq_1, if_pos h1, if_neg h2, if_pos h3]
        · exact ih _ (by omega)
    · omega
theorem signN_le (s : List UInt8) (i : Nat) : signN s i ≤ 2 := by unfold signN; split; omega; split <;> omega
theorem sign_room {s : List UInt8} {i : Nat} (h : i < s.length) : i + signN s i ≤ s.length := by
  unfold signN; split; omega; split <;> omega
theorem kd_cases (s : List UInt8) (i : Nat) : kd s i = 0 ∨ kd s i = 1 ∨ kd s i = 2 ∨ kd s i = 3 := by
  unfold kd kindI; split; simp; split; simp; split <;> simp
theorem span_pos {s : List UInt8} {i : Nat} (h : i < s.length) (h0 : kd s i ≠ 0) (h3 : kd s i ≠ 3) : i + 1 ≤ runN (spanP (decide (kd s i = 1))) s i := by
  refine runN_pos h ?_
  unfold spanP
  rcases kd_cases s i with h | h | h | h
  · exact absurd h h0
  · unfold kd at h; simp [h, kd]
  · unfold kd at h; simp [h]
  · exact absurd h h3
theorem refM_pos {s : List UInt8} {i : Nat} (h : i < s.length) (h3 : kd s i ≠ 3) (h0 : (refM s i).2.1 = 0) : 1 ≤ (refM s i).1.text.length ∧ i + (refM s i).1.text.length ≤ s.length := by
  have hr := runN_lt (spanP (decide (kd s i = 1))) (Nat.le_of_lt h)
  unfold refM at *
  dsimp only at *
  split at h0 <;> rename_i h1
  · rw [if_pos h1]
    split at h0 <;> rename_i h2
    · simp at h0
    · rw [if_neg h2]
      have := sign_room h
      simp only [sub_len this]
      omega
  · have hp := span_pos h h1 h3
    rw [if_neg h1]
    split at h0 <;> rename_i h2
    · simp at h0
    rw [if_neg h2]
    split at h0 <;> rename_i h4
    · simp at h0
    rw [if_neg h4]
    split at h0 <;> rename_i h5
    · simp at h0
    rw [if_neg h5]
    simp only [sub_len hr]
    omega
theorem reftok_ok (s : List UInt8) : Ok B 11 [.str s] [] (.tup [.slice 3 ((refP s).1.map encT), nV (refP s).2.1, nV (refP s).2.2]) [] [] := by
  refine k11 (viaS sok6 ?_)
  by_cases hs : (65536 : Int) < s.length
  · have e : refP s = ([], 2, 65536) := by unfold refP; rw [if_pos hs]
    rw [e]
    have hp : True := trivial
    repeat' first
      | refine s_seq ?_
      | refine s_skip ?_
      | (refine s_reg fun K hK => ?_; simp +contextual [hs, hp]; refine hK _ ?_; clear hK K)
      | (refine s_regD fun K hK => ?_; simp +contextual [hs, hp]; refine finD rfl ?_; simp; refine hK _ ?_; clear hK K)
      | (refine c_reg fun K hK => ?_; simp +contextual [hs, hp]; refine hK _ ?_; clear hK K)
      | (refine c_regD fun K hK => ?_; simp +contextual [hs, hp]; refine finD rfl ?_; simp; refine hK _ ?_; clear hK K)
      | (refine c_cond rfl (fun h => ?_) (fun h => ?_) <;> (replace hp := And.intro h hp; clear h; try simp only [Bool.eq_false_iff, ne_eq, Bool.and_eq_true, Bool.or_eq_true, Bool.not_eq_true', decide_eq_true_eq, Bool.false_eq_true, Bool.true_eq_false, Decidable.not_not, not_true_eq_false, not_false_eq_true, false_and, true_and] at hp))
      | (refine s_cond rfl (fun h => ?_) (fun h => ?_) <;> (replace hp := And.intro h hp; clear h; try simp only [Bool.eq_false_iff, ne_eq, Bool.and_eq_true, Bool.or_eq_true, Bool.not_eq_true', decide_eq_true_eq, Bool.false_eq_true, Bool.true_eq_false, Decidable.not_not, not_true_eq_false, not_false_eq_true, false_and, true_and] at hp))
      | refine s_block ?_
      | refine c_block ?_
      | refine c_skip ?_
      | refine s_ret ?_
      | refine c_ret ?_
      | refine c_exit ?_
      | refine s_exit ?_
      | refine leave_r ?_
      | refine next_r ?_
      | refine leave_n ?_
      | refine next_n ?_
      | refine next_e ?_
      | refine leave_eq ?_
      | refine leave_ne (by decide) ?_
      | refine hleave .ret _ (by simp) ?_
      | refine hleave (.exit _) _ (by simp) ?_
      | refine c_seq ?_

    simp [EndA]
  have hs1 : s.length ≤ 65536 := by omega
  have hs2 : s.length < 100000000 := by omega
  have hl0 := skipA_le (s := s) s.length 0 (by omega) (by omega)
  have e0 : refP s = refA s (skipA s 0) [] := by unfold refP; rw [if_neg hs]
  have hp : True := trivial
  repeat' first
    | refine s_seq ?_
    | refine s_skip ?_
    | (refine s_reg fun K hK => ?_; simp +contextual [hs, S6, sp22, hs2, hp]; refine hK _ ?_; clear hK K)
    | (refine s_regD fun K hK => ?_; simp +contextual [hs, S6, sp22, hs2, hp]; refine finD rfl ?_; simp; refine hK _ ?_; clear hK K)
    | (refine c_reg fun K hK => ?_; simp +contextual [hs, S6, sp22, hs2, hp]; refine hK _ ?_; clear hK K)
    | (refine c_regD fun K hK => ?_; simp +contextual [hs, S6, sp22, hs2, hp]; refine finD rfl ?_; simp; refine hK _ ?_; clear hK K)
    | (refine c_cond rfl (fun h => ?_) (fun h => ?_) <;> (replace hp := And.intro h hp; clear h; try simp only [Bool.eq_false_iff, ne_eq, Bool.and_eq_true, Bool.or_eq_true, Bool.not_eq_true', decide_eq_true_eq, Bool.false_eq_true, Bool.true_eq_false, Decidable.not_not, not_true_eq_false, not_false_eq_true, false_and, true_and] at hp))
    | (refine s_cond rfl (fun h => ?_) (fun h => ?_) <;> (replace hp := And.intro h hp; clear h; try simp only [Bool.eq_false_iff, ne_eq, Bool.and_eq_true, Bool.or_eq_true, Bool.not_eq_true', decide_eq_true_eq, Bool.false_eq_true, Bool.true_eq_false, Decidable.not_not, not_true_eq_false, not_false_eq_true, false_and, true_and] at hp))
    | refine s_block ?_
    | refine c_block ?_
    | refine c_skip ?_
    | refine s_ret ?_
    | refine c_ret ?_
    | refine c_exit ?_
    | refine s_exit ?_
    | refine leave_r ?_
    | refine next_r ?_
    | refine leave_n ?_
    | refine next_n ?_
    | refine next_e ?_
    | refine leave_eq ?_
    | refine leave_ne (by decide) ?_
    | refine hleave .ret _ (by simp) ?_
    | refine hleave (.exit _) _ (by simp) ?_
    | refine c_seq ?_

  refine c_loopI (fun (p : Nat × List Tok) => (⟨[(0, .str s), (5, .own 3 (p.2.map encT)), (6, nV p.1)], []⟩ : St))
    (fun p => (p.1 ≤ s.length ∧ (p.1 < s.length → kd s p.1 ≠ 3)) ∧ refA s p.1 p.2 = refP s ∧ p.2.length ≤ p.1) (fun p => s.length - p.1) (skipA s 0, []) (by simp)
    ⟨⟨hl0.2, fun h => (skipA_kd s.length 0 (by omega) h).1⟩, e0.symm, by simp⟩ (fun p K' hn hnext hleave => ?_)
  obtain ⟨i, acc⟩ := p
  simp only at hn hnext ⊢
  obtain ⟨⟨hi0, hk3⟩, heq, hacc⟩ := hn
  have hsp1 := runN_le (spanP (decide (kd s i = 1))) s i
  have hsp2 := runN_lt (spanP (decide (kd s i = 1))) hi0
  obtain ⟨e, he⟩ : ∃ e, e = runN (spanP (decide (kd s i = 1))) s i := ⟨_, rfl⟩
  have hcap : (acc.length + 1) * 32 ≤ 140737488355328 := by omega
  have hwe : IntKind.wrap .i64 ((e : Int) - i) = (e : Int) - i := by
    rw [wrapN (n := (e : Int) - i) (m := e - i) (by omega) (by omega)]; omega
  have hsg := signN_le s i
  obtain ⟨g, hg⟩ : ∃ g, g = i + signN s i := ⟨_, rfl⟩
  have hwg : IntKind.wrap .i64 ((i : Int) + (signN s i : Nat)) = (g : Int) := wrapN (by omega) (by omega)
  have hgi : i ≤ g := by omega
  have hgl : i < s.length → g ≤ s.length := fun h => by have := sign_room h; omega
  rw [← he] at hsp1 hsp2
  have fault : ∀ c a, i < s.length → (refM s i).2.1 = c → (refM s i).2.2 = a → ¬ c = 0 → refP s = ([], c, a) := fun c a h1 h2 h3 h4 => by
    rw [← heq, refA.eq_1 s i, if_pos h1, if_neg (by rw [h2]; exact h4), h2, h3]
  have hkd : kindI (byteAt s i).toNat = kd s i := rfl
  have hke : kindI (byteAt s e).toNat = kd s e := rfl
  repeat' first
    | refine s_seq ?_
    | refine s_skip ?_
    | (refine s_reg fun K hK => ?_; simp +contextual [S6, sp22, sp23, sp24, sp25, hs2, hi0, hcap, hkd, hke, ← he, hsp1, hsp2, hwe, hwg, hgi, hgl, sub_eq, hp]; refine hK _ ?_; clear hK K)
    | (refine s_regD fun K hK => ?_; simp +contextual [S6, sp22, sp23, sp24, sp25, hs2, hi0, hcap, hkd, hke, ← he, hsp1, hsp2, hwe, hwg, hgi, hgl, sub_eq, hp]; refine finD rfl ?_; simp; refine hK _ ?_; clear hK K)
    | (refine c_reg fun K hK => ?_; simp +contextual [S6, sp22, sp23, sp24, sp25, hs2, hi0, hcap, hkd, hke, ← he, hsp1, hsp2, hwe, hwg, hgi, hgl, sub_eq, hp]; refine hK _ ?_; clear hK K)
    | (refine c_regD fun K hK => ?_; simp +contextual [S6, sp22, sp23, sp24, sp25, hs2, hi0, hcap, hkd, hke, ← he, hsp1, hsp2, hwe, hwg, hgi, hgl, sub_eq, hp]; refine finD rfl ?_; simp; refine hK _ ?_; clear hK K)
    | (refine c_cond rfl (fun h => ?_) (fun h => ?_) <;> (replace hp := And.intro h hp; clear h; try simp only [Bool.eq_false_iff, ne_eq, Bool.and_eq_true, Bool.or_eq_true, Bool.not_eq_true', decide_eq_true_eq, Bool.false_eq_true, Bool.true_eq_false, Decidable.not_not, not_true_eq_false, not_false_eq_true, false_and, true_and, mrg_12] at hp))
    | (refine s_cond rfl (fun h => ?_) (fun h => ?_) <;> (replace hp := And.intro h hp; clear h; try simp only [Bool.eq_false_iff, ne_eq, Bool.and_eq_true, Bool.or_eq_true, Bool.not_eq_true', decide_eq_true_eq, Bool.false_eq_true, Bool.true_eq_false, Decidable.not_not, not_true_eq_false, not_false_eq_true, false_and, true_and, mrg_12] at hp))
    | refine s_block ?_
    | refine c_block ?_
    | refine c_skip ?_
    | refine s_ret ?_
    | refine c_ret ?_
    | refine c_exit ?_
    | refine s_exit ?_
    | refine leave_r ?_
    | refine next_r ?_
    | refine leave_n ?_
    | refine next_n ?_
    | refine next_e ?_
    | refine leave_eq ?_
    | refine leave_ne (by decide) ?_
    | refine hleave .ret _ (by simp) ?_
    | refine hleave (.exit _) _ (by simp) ?_
    | refine c_seq ?_

  · have e1 := fault 100 i hp.2.2.1 (by simp [refM, hp]) (by simp [refM, hp]) (by decide)
    rw [e1]; simp [EndA]
  · have e1 : refM s i = (⟨3, sub s i g, i⟩, 0, 0) := by simp [refM, hp, hg]
    have hpos := refM_pos hp.2.2.1 (hk3 hp.2.2.1) (by rw [e1])
    have hgg : i + (sub s i g).length = g := by rw [sub_len (hgl hp.2.2.1)]; omega
    rw [e1] at hpos
    simp only [hgg] at hpos
    have hsk := skipA_le (s := s) s.length g (by omega) hpos.2
    refine hnext _ (skipA s g, acc ++ [⟨3, sub s i g, i⟩]) (by simp [encT]) ⟨⟨hsk.2, fun h => (skipA_kd s.length g (by omega) h).1⟩, ?_, by simp only [List.length_append, List.length_singleton]; omega⟩ (by simp only; omega)
    rw [← heq, refA.eq_1 s i, if_pos hp.2.2.1, e1, if_pos rfl]
    simp only [hgg]
    rw [Nat.max_eq_right (by omega)]
  · have e1 := fault 2 i hp.2.2.1 (by simp only [refM]; rw [if_neg hp.2.1, ← he, if_pos (by simpa using hp.1)]) (by simp only [refM]; rw [if_neg hp.2.1, ← he, if_pos (by simpa using hp.1)]) (by decide)
    rw [e1]; simp [EndA]
  · have e1 := fault 10 i hp.2.2.2.1 (by simp only [refM]; rw [if_neg hp.2.2.1, ← he, if_neg hp.2.1, if_pos hp.1]) (by simp only [refM]; rw [if_neg hp.2.2.1, ← he, if_neg hp.2.1, if_pos hp.1]) (by decide)
    rw [e1]; simp [EndA]
  · have e1 := fault 100 e hp.2.2.2.2.1 (by simp only [refM]; rw [if_neg hp.2.2.2.1, ← he, if_neg hp.2.2.1, if_neg hp.2.1, if_pos hp.1]) (by simp only [refM]; rw [if_neg hp.2.2.2.1, ← he, if_neg hp.2.2.1, if_neg hp.2.1, if_pos hp.1]) (by decide)
    rw [e1]; simp [EndA]
  · have hlt := hp.2.2.2.2.1
    have hkn : ((kd s i).toNat : Int) = kd s i := by rcases kd_cases s i with h | h | h | h <;> rw [h] <;> rfl
    have e1 : refM s i = (⟨(kd s i).toNat, sub s i e, i⟩, 0, 0) := by
      simp only [refM]; rw [if_neg hp.2.2.2.1, ← he, if_neg hp.2.2.1, if_neg hp.2.1, if_neg hp.1]
    have hpos := refM_pos hlt (hk3 hlt) (by rw [e1])
    have hgg : i + (sub s i e).length = e := by rw [sub_len hsp2]; omega
    rw [e1] at hpos
    simp only [hgg] at hpos
    have hsk := skipA_le (s := s) s.length e (by omega) hpos.2
    refine hnext _ (skipA s e, acc ++ [⟨(kd s i).toNat, sub s i e, i⟩]) (by simp [encT, hkn]) ⟨⟨hsk.2, fun h => (skipA_kd s.length e (by omega) h).1⟩, ?_, by simp only [List.length_append, List.length_singleton]; omega⟩ (by simp only; omega)
    rw [← heq, refA.eq_1 s i, if_pos hlt, e1, if_pos rfl]
    simp only [hgg]
    rw [Nat.max_eq_right (by omega)]
  · have e1 : refP s = (acc, 0, 0) := by rw [← heq, refA.eq_1 s i, if_neg hp.1]
    rw [e1]; simp [EndA]
end Go.Proofs.Ytblmmaecklgbhaa
