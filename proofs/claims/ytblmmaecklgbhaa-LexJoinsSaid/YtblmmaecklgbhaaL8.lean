/- A part of the proof of a law of this seat: no condition. -/
import Derived.Test.YtblmmaecklgbhaaL7
set_option linter.unusedSimpArgs false
set_option linter.unusedVariables false
set_option maxRecDepth 20000
namespace Go.Proofs.Ytblmmaecklgbhaa
open Go.Ax
theorem contains_cons (x : UInt8) (l t : List UInt8) : Lib.contains (x :: l) t = (t.isPrefixOf (x :: l) || Lib.contains l t) := by
  unfold Lib.contains
  rw [Lib.index]
  have := Lib.index_ge l t
  cases h : t.isPrefixOf (x :: l)
  · simp only [Bool.false_eq_true, if_false, Bool.false_or]
    split
    · rename_i h; simp at h; rw [h]
    · rename_i h; simp at h
      congr 1
      apply propext
      constructor <;> intro _ <;> omega
  · simp
theorem contains_nil2 (a b : UInt8) : Lib.contains [] [a, b] = false := rfl
theorem indexByte_neg (x : UInt8) (l : List UInt8) (c : UInt8) : (Lib.indexByte (x :: l) c < 0) ↔ (¬ x = c ∧ Lib.indexByte l c < 0) := by
  rw [Lib.indexByte]
  have := Lib.indexByte_ge l c
  by_cases h : x = c
  · simp [h]
  · simp only [beq_iff_eq, h, if_false]
    split
    · rename_i h2; rw [h2]; simp
    · constructor
      · intro h3; exact ⟨fun h => h.elim, by omega⟩
      · rintro ⟨_, h3⟩; omega
theorem two_iff {a b : UInt8} (ha : a ≠ 32) (hb : b ≠ 32) : Lib.contains twos [a, b] = twosL.contains [a, b] := by
  have ha' : ¬ a = 32 := ha
  have hb' : ¬ b = 32 := hb
  rw [Bool.eq_iff_iff]
  simp only [twos, twosL, contains_cons, contains_nil2, List.isPrefixOf, Bool.or_eq_true, Bool.and_eq_true, beq_iff_eq, ha', hb', and_false, false_and, List.contains_eq_mem, decide_eq_true_eq, List.mem_cons,
    List.cons.injEq, List.not_mem_nil, or_false, and_true, Bool.and_true, false_or, Bool.false_eq_true]
theorem two_sp {a : UInt8} : twosL.contains [a, 32] = false := by
  simp [twosL]
theorem indexByte_nil (c : UInt8) : (Lib.indexByte [] c < 0) ↔ True := by simp [Lib.indexByte]
theorem one_iff (c : UInt8) : (Lib.indexByte ones c < 0) ↔ ¬ onesL.contains [c] = true := by
  simp only [ones, onesL, indexByte_neg, indexByte_nil, List.contains_eq_mem, decide_eq_true_eq, List.mem_cons, List.cons.injEq, List.not_mem_nil, or_false, and_true, not_or]
  simp only [eq_comm, and_true]
theorem kdL (s : List UInt8) (i : Nat) : (kd s i = 1) ↔ isLetter (byteAt s i) = true := kd1 _
theorem kdD (s : List UInt8) (i : Nat) : (kd s i = 2) ↔ ¬ isLetter (byteAt s i) = true ∧ isDigit (byteAt s i) = true := by
  unfold kd kindI isLetter isDigit ofI; split; simp_all; split; simp_all; split <;> simp_all
theorem kdB3 (s : List UInt8) (i : Nat) : (kd s i = 3) ↔ isBlank (byteAt s i) = true := by
  unfold kd kindI isBlank
  generalize ((byteAt s i).toNat : Int) = c
  unfold isLetterI isDigitI
  split
  · rename_i h; simp at h ⊢; omega
  · split
    · rename_i h; simp at h ⊢; omega
    · split <;> simp_all
theorem span_w : spanP true = isWordB := by
  funext c
  unfold spanP isWordB ofI isWordI
  rw [Bool.eq_iff_iff]
  have := kd12 c.toNat
  unfold isWordI at this
  rw [this]
  simp
  omega
theorem span_d : spanP false = isDigit := by
  funext c
  unfold spanP isDigit ofI kindI
  rw [Bool.eq_iff_iff]
  generalize (c.toNat : Int) = c
  unfold isLetterI isDigitI
  split
  · rename_i h; simp at h ⊢; omega
  · split
    · rename_i h; simp at h ⊢; exact h
    · split <;> simp_all
theorem sub2 {s : List UInt8} {i : Nat} (h : i + 1 < s.length) : sub s i (i + 2) = [byteAt s i, byteAt s (i + 1)] := by
  have h1 : i < s.length := by omega
  rw [sub, List.drop_take, drop_nth h1, drop_nth h, show i + 2 - i = 2 by omega]
  rfl
theorem sub1 {s : List UInt8} {i : Nat} (h : i < s.length) : sub s i (i + 1) = [byteAt s i] := by
  rw [sub, List.drop_take, drop_nth h, show i + 1 - i = 1 by omega]
  rfl
theorem u8_32 (c : UInt8) : ((c.toNat : Int) = 32) ↔ c = 32 := by
  constructor
  · intro h; exact UInt8.toNat_inj.1 (by have : (32 : UInt8).toNat = 32 := rfl; omega)
  · rintro rfl; rfl
theorem sign2 {s : List UInt8} {i : Nat} (h : i < s.length) (h3 : kd s i ≠ 3) : twoAt s i = true ↔ (i + 2 ≤ s.length ∧ twosL.contains (sub s i (i + 2)) = true) := by
  have hb : ¬ byteAt s i = 32 := fun e => h3 (by rw [kdB3, e]; decide)
  unfold twoAt
  by_cases hl : i + 1 < s.length
  · rw [sub2 hl]
    simp only [hl, decide_true, Bool.true_and, Bool.and_eq_true, Bool.not_eq_true', decide_eq_false_iff_not, u8_32, hb, not_false_eq_true, and_true]
    by_cases hb2 : byteAt s (i + 1) = 32
    · rw [hb2, two_sp]; simp
    · rw [two_iff hb hb2]
      constructor
      · rintro ⟨_, h⟩; exact ⟨by omega, h⟩
      · rintro ⟨_, h⟩; exact ⟨hb2, h⟩
  · simp only [hl, decide_false, Bool.false_and, Bool.false_eq_true, false_iff]
    rintro ⟨h, _⟩; omega
/-- The two agree on a token. -/
theorem tok_same {s : List UInt8} {i : Nat} (h : i < s.length) (h3 : kd s i ≠ 3) : (refM s i).2 = (nextM s i).2 ∧ ((nextM s i).2.1 = 0 → (refM s i).1 = (nextM s i).1) := by
  have hw := runN_le isWordB s i
  have hw2 := runN_lt isWordB (Nat.le_of_lt h)
  have hd := runN_le isDigit s i
  have hd2 := runN_lt isDigit (Nat.le_of_lt h)
  unfold refM nextM
  dsimp only
  by_cases hl : isLetter (byteAt s i) = true
  · have k1 : kd s i = 1 := (kdL _ _).2 hl
    rw [if_pos hl, k1, if_neg (by decide)]
    simp only [decide_true, span_w, sub_len hw2, true_and, show ¬ ((1 : Int) = 2) from by decide, false_and, or_false]
    by_cases h4 : (40 : Int) < ((runN isWordB s i - i : Nat) : Int)
    · rw [if_pos h4, if_pos (by omega)]; simp
    · rw [if_neg h4, if_neg (by omega)]; simp
  · rw [if_neg hl]
    by_cases hd' : isDigit (byteAt s i) = true
    · have k2 : kd s i = 2 := (kdD _ _).2 ⟨hl, hd'⟩
      rw [if_pos hd', k2, if_neg (by decide)]
      simp only [show ¬ ((2 : Int) = 1) from by decide, decide_false, span_d, sub_len hd2, false_and, false_or, true_and, kdL]
      by_cases h4 : (300 : Int) < ((runN isDigit s i - i : Nat) : Int)
      · rw [if_pos h4, if_pos (by omega)]; simp
      rw [if_neg h4, if_neg (by omega)]
      by_cases h5 : ((byteAt s i).toNat : Int) = 48 ∧ (1 : Int) < ((runN isDigit s i - i : Nat) : Int)
      · rw [if_pos h5, if_pos ⟨h5.1, by have := h5.2; omega⟩]; simp
      rw [if_neg h5, if_neg (fun h => h5 ⟨h.1, by have := h.2; omega⟩)]
      by_cases h6 : runN isDigit s i < s.length ∧ isLetter (byteAt s (runN isDigit s i)) = true
      · rw [if_pos h6, if_pos h6]; simp
      · rw [if_neg h6, if_neg h6]; simp
    · have k0 : kd s i = 0 := by
        rcases kd_cases s i with h | h | h | h
        · exact h
        · exact absurd ((kdL _ _).1 h) hl
        · exact absurd ((kdD _ _).1 h).2 hd'
        · exact absurd h h3
      rw [if_neg hd', k0, if_pos rfl]
      have hs2 := sign2 h h3
      unfold signN
      by_cases h4 : twoAt s i = true
      · rw [if_pos h4, if_pos (hs2.1 h4)]; simp
      · rw [if_neg h4, if_neg (fun h => h4 (hs2.2 h)), sub1 h]
        by_cases h5 : Lib.indexByte ones (byteAt s i) < 0
        · rw [if_pos h5, if_neg ((one_iff _).1 h5)]; simp
        · have h7 : onesL.contains [byteAt s i] = true := by
            apply Decidable.byContradiction; intro h; exact h5 ((one_iff _).2 h)
          rw [if_neg h5, if_pos h7]; simp [sub1 h]
theorem pre_iff {s : List UInt8} {i : Nat} (h : i < s.length) : hasPre (s.drop i) [47, 47] = true ↔ ¬ ((s.length : Int) < (i + 2 : Nat) ∨ ¬ sub s i (i + 2) = [47, 47]) := by
  unfold hasPre sub
  rw [List.drop_take, show i + 2 - i = 2 by omega]
  simp
  omega
theorem lex_same {s : List UInt8} : ∀ (n i : Nat) (acc : List Tok), s.length - i ≤ n → i ≤ s.length → lexA s i acc = refA s (skipA s i) acc := by
  intro n
  induction n with
  | zero =>
    intro i acc h hi
    rw [lexA.eq_1, dif_neg (by omega), skipA.eq_1, if_neg (by omega), refA.eq_1, if_neg (by omega)]
  | succ n ih =>
    intro i acc h hi
    rw [lexA.eq_1, skipA.eq_1]
    by_cases h1 : i < s.length
    · rw [dif_pos h1, if_pos h1]
      by_cases h2 : isBlank (byteAt s i) = true
      · have h3 : kindI (byteAt s i).toNat = 3 := (kdB3 _ _).2 h2
        rw [if_pos h2, if_pos h3]
        exact ih _ _ (by omega) (by omega)
      · have h3 : ¬ kd s i = 3 := fun e => h2 ((kdB3 _ _).1 e)
        have h3' : ¬ kindI (byteAt s i).toNat = 3 := h3
        rw [if_neg h2, if_neg h3']
        by_cases h4 : hasPre (s.drop i) [47, 47] = true
        · have hr := runN_pos h1 (hasPre_run h1 h4)
          have hr2 := runN_lt (ofI notEndI) hi
          rw [if_pos h4, if_neg ((pre_iff h1).1 h4)]
          exact ih _ _ (by omega) (by omega)
        · have h5 : ((s.length : Int) < (i + 2 : Nat) ∨ ¬ sub s i (i + 2) = [47, 47]) := by
            apply Decidable.byContradiction; intro h; exact h4 ((pre_iff h1).2 h)
          rw [if_neg h4, if_pos h5, refA.eq_1, if_pos h1]
          obtain ⟨e1, e2⟩ := tok_same h1 h3
          rw [e1]
          by_cases h6 : (nextM s i).2.1 = 0
          · rw [if_pos h6, if_pos h6, e2 h6]
            obtain ⟨p1, p2⟩ := nextM_pos h1 h6
            rw [Nat.max_eq_right (by omega), ih _ _ (by omega) p2]
            have := (skipA_le (s := s) s.length (i + (nextM s i).1.text.length) (by omega) p2).1
            rw [Nat.max_eq_right (by omega)]
          · rw [if_neg h6, if_neg h6]
    · rw [dif_neg h1, if_neg h1, refA.eq_1, if_neg h1]
theorem same_all (s : List UInt8) : lexP s = refP s := by
  unfold lexP refP
  split
  · rfl
  · exact lex_same s.length 0 [] (by omega) (by omega)
end Go.Proofs.Ytblmmaecklgbhaa
