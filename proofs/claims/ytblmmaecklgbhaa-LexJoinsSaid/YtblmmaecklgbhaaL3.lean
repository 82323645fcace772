/- A part of the proof of a law of this seat: no condition. -/
import Derived.Test.YtblmmaecklgbhaaL2
set_option linter.unusedSimpArgs false
set_option linter.unusedVariables false
set_option maxRecDepth 20000
namespace Go.Proofs.Ytblmmaecklgbhaa
open Go.Ax
theorem runN_pos {p : UInt8 → Bool} {s : List UInt8} {i : Nat} (h : i < s.length) (hp : p (byteAt s i) = true) : i + 1 ≤ runN p s i := by
  rw [runN_step h, if_pos hp]; exact runN_le _ _ _
theorem sub_len {s : List UInt8} {i e : Nat} (h : e ≤ s.length) : (sub s i e).length = e - i := by
  simp [sub]; omega
theorem nextM_pos {s : List UInt8} {i : Nat} (h : i < s.length) (h0 : (nextM s i).2.1 = 0) : 1 ≤ (nextM s i).1.text.length ∧ i + (nextM s i).1.text.length ≤ s.length := by
  have hr2 := runN_lt isWordB (Nat.le_of_lt h)
  have hd2 := runN_lt isDigit (Nat.le_of_lt h)
  unfold nextM at *
  dsimp only at *
  split at h0 <;> rename_i h1
  · have hr1 : i + 1 ≤ runN isWordB s i := runN_pos h (by unfold isWordB ofI isWordI; unfold isLetter ofI at h1; rw [h1]; rfl)
    rw [if_pos h1]
    split at h0
    · simp at h0
    · rename_i h2
      rw [if_neg h2]
      simp only [sub_len hr2]
      omega
  · rw [if_neg h1]
    split at h0 <;> rename_i h2
    · have hd1 : i + 1 ≤ runN isDigit s i := runN_pos h h2
      rw [if_pos h2]
      split at h0
      · simp at h0
      rename_i h3
      rw [if_neg h3]
      split at h0
      · simp at h0
      rename_i h4
      rw [if_neg h4]
      split at h0
      · simp at h0
      rename_i h5
      rw [if_neg h5]
      simp only [sub_len hd2]
      omega
    · rw [if_neg h2]
      split at h0 <;> rename_i h3
      · rw [if_pos h3]
        have : i + 1 < s.length := by
          unfold twoAt at h3
          simp only [Bool.and_eq_true, decide_eq_true_eq] at h3
          exact h3.1
        simp only [sub_len (show i + 2 ≤ s.length by omega)]
        omega
      · rw [if_neg h3]
        split at h0
        · simp at h0
        rename_i h4
        rw [if_neg h4]
        simp only [sub_len (show i + 1 ≤ s.length by omega)]
        omega
def isBlank (c : UInt8) : Bool := decide ((c.toNat : Int) = 32) || (decide ((c.toNat : Int) = 9) || (decide ((c.toNat : Int) = 10) || decide ((c.toNat : Int) = 13)))
def lexA (s : List UInt8) (i : Nat) (acc : List Tok) : List Tok × Nat × Nat :=
  if h : i < s.length then
    if isBlank (byteAt s i) = true then lexA s (i + 1) acc
    else if hasPre (s.drop i) [47, 47] = true then lexA s (max (i + 1) (runN (ofI notEndI) s i)) acc
    else if (nextM s i).2.1 = 0 then lexA s (max (i + 1) (i + (nextM s i).1.text.length)) (acc ++ [(nextM s i).1])
    else ([], (nextM s i).2.1, (nextM s i).2.2)
  else (acc, 0, 0)
termination_by s.length - i
def lexP (s : List UInt8) : List Tok × Nat × Nat := if (65536 : Int) < s.length then ([], 2, 65536) else lexA s 0 []
def encF (code pos : Nat) : V := .agg [nV code, nV pos]
def sp21 : Sp
  | [.str s, .int .i64 i], [] => if 0 ≤ i ∧ i < s.length ∧ s.length < 100000000 then some (.tup [encT (nextM s i.toNat).1, nV (nextM s i.toNat).2.1, nV (nextM s i.toNat).2.2], [], []) else none
  | _, _ => none
theorem fn21 {m : Int} : FnOk Try.prog (base m) 21 sp21 := by
  intro args objs r objs' news h
  unfold sp21 at h
  split at h
  · rename_i s i
    split at h
    · rename_i hc
      obtain ⟨n, rfl⟩ : ∃ n : Nat, i = n := ⟨i.toNat, by omega⟩
      cases h
      simp only [Int.toNat_natCast]
      exact next_ok hc.2.2 (by omega)
    · cases h
  · cases h
def S3 : List (FuncId × Sp) := [(18, sp18), (19, sp19), (21, sp21)]
theorem sok3 {m : Int} : SOk Try.prog (base m) S3 := .cons fn18 (.cons fn19 (.cons fn21 .nil))
theorem hasPre_run {s : List UInt8} {i : Nat} (h : i < s.length) (hp : hasPre (s.drop i) [47, 47] = true) : ofI notEndI (byteAt s i) = true := by
  simp only [hasPre, Bool.and_eq_true, decide_eq_true_eq] at hp
  have h2 := hp.2
  simp at h2
  simp [ofI, notEndI, byteAt, h]
  have : s[i] = 47 := by
    cases hd : s.drop (i + 1) with
    | nil => simp [hd, List.drop_eq_getElem_cons h] at h2
    | cons a r => rw [List.drop_eq_getElem_cons h, hd] at h2; simp at h2; exact h2.1
  rw [this]; decide
theorem tokens_ok {m : Int} (s : List UInt8) : Ok (base m) 10 [.str s] [] (.tup [.slice 3 ((lexP s).1.map encT), encF (lexP s).2.1 (lexP s).2.2]) [] [] := by
  refine k10 (viaS sok3 ?_)
  have hp : True := trivial
  repeat' first
    | refine s_seq ?_
    | refine s_skip ?_
    | (refine s_reg fun K hK => ?_; simp +contextual [S3, hp]; refine hK _ ?_; clear hK K)
    | (refine s_regD fun K hK => ?_; simp +contextual [S3, hp]; refine finD rfl ?_; simp; refine hK _ ?_; clear hK K)
    | (refine c_reg fun K hK => ?_; simp +contextual [S3, hp]; refine hK _ ?_; clear hK K)
    | (refine c_regD fun K hK => ?_; simp +contextual [S3, hp]; refine finD rfl ?_; simp; refine hK _ ?_; clear hK K)
    | (refine c_cond rfl (fun h => ?_) (fun h => ?_) <;> (replace hp := And.intro h hp; clear h; try simp only [Bool.eq_false_iff, ne_eq, Bool.and_eq_true, Bool.or_eq_true, Bool.not_eq_true', decide_eq_true_eq, Bool.false_eq_true, Bool.true_eq_false, Decidable.not_not, not_true_eq_false, not_false_eq_true, false_and, true_and] at hp))
    | (refine s_cond rfl (fun h => ?_) (fun h => ?_) <;> (replace hp := And.intro h hp; clear h; try simp only [Bool.eq_false_iff, ne_eq, Bool.and_eq_true, Bool.or_eq_true, Bool.not_eq_true', decide_eq_true_eq, Bool.false_eq_true, Bool.true_eq_false, Decidable.not_not, not_true_eq_false, not_false_eq_true, false_and, true_and] at hp))
    | refine s_block ?_
    | refine c_block ?_
    | refine c_skip ?_
    | refine s_ret ?_
    | refine c_ret ?_
    | refine c_exit ?_
    | refine s_exit ?_
    | refine leave_r ?_
    | refine next_r ?_
    | refine leave_n ?_
    | refine next_n ?_
    | refine next_e ?_
    | refine leave_eq ?_
    | refine leave_ne (by decide) ?_
    | refine hleave .ret _ (by simp) ?_
    | refine hleave (.exit _) _ (by simp) ?_
    | refine c_seq ?_

  · simp [EndA, lexP, encF, hp]
  refine c_loopI (fun (p : Nat × List Tok) => (⟨[(0, .str s), (3, .ref (.loc 3) 0), (4, .own 3 (p.2.map encT)), (5, nV p.1)], [(.loc 3, .cells false [.int .i64 0, .int .i64 0])]⟩ : St))
    (fun p => p.1 ≤ s.length ∧ lexA s p.1 p.2 = lexA s 0 [] ∧ p.2.length ≤ p.1) (fun p => s.length - p.1) (0, []) (by simp) ⟨by simp, rfl, by simp⟩ (fun p K' hn hnext hleave => ?_)
  obtain ⟨i, acc⟩ := p
  simp only at hn hnext ⊢
  obtain ⟨hi0, heq, hacc⟩ := hn
  have hs : s.length ≤ 65536 := by have := hp.1; omega
  have hs2 : s.length < 100000000 := by omega
  have hcap : (acc.length + 1) * 32 ≤ 140737488355328 := by omega
  have hw : i < s.length → IntKind.wrap .i64 ((i : Int) + 1) = ((i + 1 : Nat) : Int) := fun _ => wrapN (by omega) (by omega)
  repeat' first
    | refine s_seq ?_
    | refine s_skip ?_
    | (refine s_reg fun K hK => ?_; simp +contextual [S3, hs2, hi0, sp35, sp19, sp21, encT, hcap, hp]; refine hK _ ?_; clear hK K)
    | (refine s_regD fun K hK => ?_; simp +contextual [S3, hs2, hi0, sp35, sp19, sp21, encT, hcap, hp]; refine finD rfl ?_; simp; refine hK _ ?_; clear hK K)
    | (refine c_reg fun K hK => ?_; simp +contextual [S3, hs2, hi0, sp35, sp19, sp21, encT, hcap, hp]; refine hK _ ?_; clear hK K)
    | (refine c_regD fun K hK => ?_; simp +contextual [S3, hs2, hi0, sp35, sp19, sp21, encT, hcap, hp]; refine finD rfl ?_; simp; refine hK _ ?_; clear hK K)
    | (refine c_cond rfl (fun h => ?_) (fun h => ?_) <;> (replace hp := And.intro h hp; clear h; try simp only [Bool.eq_false_iff, ne_eq, Bool.and_eq_true, Bool.or_eq_true, Bool.not_eq_true', decide_eq_true_eq, Bool.false_eq_true, Bool.true_eq_false, Decidable.not_not, not_true_eq_false, not_false_eq_true, false_and, true_and] at hp))
    | (refine s_cond rfl (fun h => ?_) (fun h => ?_) <;> (replace hp := And.intro h hp; clear h; try simp only [Bool.eq_false_iff, ne_eq, Bool.and_eq_true, Bool.or_eq_true, Bool.not_eq_true', decide_eq_true_eq, Bool.false_eq_true, Bool.true_eq_false, Decidable.not_not, not_true_eq_false, not_false_eq_true, false_and, true_and] at hp))
    | refine s_block ?_
    | refine c_block ?_
    | refine c_skip ?_
    | refine s_ret ?_
    | refine c_ret ?_
    | refine c_exit ?_
    | refine s_exit ?_
    | refine leave_r ?_
    | refine next_r ?_
    | refine leave_n ?_
    | refine next_n ?_
    | refine next_e ?_
    | refine leave_eq ?_
    | refine leave_ne (by decide) ?_
    | refine hleave .ret _ (by simp) ?_
    | refine hleave (.exit _) _ (by simp) ?_
    | refine c_seq ?_

  · have hb : isBlank (byteAt s i) = true := by simpa [isBlank] using hp.1
    refine hnext _ (i + 1, acc) (by simp [hw hp.2.1]) ⟨by have := hp.2.1; simp only; omega, ?_, by simp only; omega⟩ (by have := hp.2.1; simp only; omega)
    rw [← heq, lexA.eq_1 s i, dif_pos hp.2.1, if_pos hb]
  · have hb : ¬ isBlank (byteAt s i) = true := by simpa [isBlank] using hp.2.1
    have h1 := hp.2.2.1
    have hr := runN_pos h1 (hasPre_run h1 hp.1)
    have hr2 := runN_lt (ofI notEndI) hi0
    refine hnext _ (runN (ofI notEndI) s i, acc) (by simp) ⟨by simp only; omega, ?_, by simp only; omega⟩ (by simp only; omega)
    rw [← heq, lexA.eq_1 s i, dif_pos h1, if_neg hb, if_pos hp.1, Nat.max_eq_right hr]
  · have hb : ¬ isBlank (byteAt s i) = true := by simpa [isBlank] using hp.2.2.1
    have hl : ¬ (65536 : Int) < s.length := by omega
    have e : lexP s = ([], (nextM s i).2.1, (nextM s i).2.2) := by
      unfold lexP
      rw [if_neg hl, ← heq, lexA.eq_1 s i, dif_pos hp.2.2.2.1, if_neg hb, if_neg hp.2.1, if_neg hp.1]
    rw [e]
    simp [EndA, encF]
  · have hb : ¬ isBlank (byteAt s i) = true := by simpa [isBlank] using hp.2.2.1
    have h1 := hp.2.2.2.1
    have h0 : (nextM s i).2.1 = 0 := by have := hp.1; omega
    have hpos := nextM_pos h1 h0
    have hwt : IntKind.wrap .i64 ((i : Int) + ((nextM s i).1.text.length : Nat)) = ((i + (nextM s i).1.text.length : Nat) : Int) := wrapN (by omega) (by omega)
    refine hnext _ (i + (nextM s i).1.text.length, acc ++ [(nextM s i).1]) (by simp [hwt, encT]) ⟨by simp only; omega, ?_, by simp only [List.length_append, List.length_singleton]; omega⟩ (by simp only; omega)
    rw [← heq, lexA.eq_1 s i, dif_pos h1, if_neg hb, if_neg hp.2.1, if_pos h0, Nat.max_eq_right (by omega)]
  · have hl : ¬ (65536 : Int) < s.length := by omega
    have e : lexP s = (acc, 0, 0) := by
      unfold lexP
      rw [if_neg hl, ← heq, lexA.eq_1 s i, dif_neg hp.1]
    rw [e]
    simp [EndA, encF]
end Go.Proofs.Ytblmmaecklgbhaa
