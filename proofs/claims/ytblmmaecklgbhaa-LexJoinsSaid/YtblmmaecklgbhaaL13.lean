/- A part of the proof of a law of this seat: no condition. -/
import Derived.Test.YtblmmaecklgbhaaL11
set_option linter.unusedSimpArgs false
set_option linter.unusedVariables false
set_option maxRecDepth 20000
namespace Go.Proofs.Ytblmmaecklgbhaa
open Go.Ax
/-! ### a text cut off -/
theorem byteAt_take {s : List UInt8} {i e : Nat} (h : i < e) : byteAt (s.take e) i = byteAt s i := by
  simp [byteAt, List.getD_eq_getElem?_getD, List.getElem?_take, h]
theorem takeWhile_take (p : UInt8 → Bool) : ∀ (l : List UInt8) (k : Nat), (l.take k).takeWhile p = (l.takeWhile p).take k := by
  intro l
  induction l with
  | nil => intro k; simp
  | cons a r ih =>
    intro k
    cases k with
    | zero => simp
    | succ k =>
      simp only [List.take_succ_cons, List.takeWhile_cons]
      split
      · simp [ih]
      · simp
theorem runN_take {p : UInt8 → Bool} {s : List UInt8} {i e : Nat} (h : runN p s i ≤ e) : runN p (s.take e) i = runN p s i := by
  unfold runN at *
  rw [List.drop_take, takeWhile_take, List.length_take]
  omega
theorem sub_take {s : List UInt8} {i j e : Nat} (h : j ≤ e) : sub (s.take e) i j = sub s i j := by
  unfold sub; rw [List.take_take, Nat.min_eq_left h]
theorem nextM_take {s : List UInt8} {i e : Nat} (hi : i < s.length) (h0 : (nextM s i).2.1 = 0) (he : i + (nextM s i).1.text.length ≤ e) (hl : e ≤ s.length) : nextM (s.take e) i = nextM s i := by
  have hp := nextM_pos hi h0
  have hie : i < e := by omega
  have hle : (s.take e).length = e := by simp; omega
  have hw2 := runN_lt isWordB (Nat.le_of_lt hi)
  have hd2 := runN_lt isDigit (Nat.le_of_lt hi)
  have hw1 := runN_le isWordB s i
  have hd1 := runN_le isDigit s i
  have hb := byteAt_take (s := s) hie
  by_cases h1 : isLetter (byteAt s i) = true
  · have hj : runN isWordB s i ≤ e := by
      unfold nextM at he h0
      dsimp only at he h0
      rw [if_pos h1] at he h0
      split at h0
      · simp at h0
      · rename_i h2
        rw [if_neg h2] at he
        simp only [sub_len hw2] at he
        omega
    unfold nextM
    dsimp only
    rw [hb, if_pos h1, if_pos h1, runN_take hj, sub_take hj]
  · by_cases h2 : isDigit (byteAt s i) = true
    · have hj : runN isDigit s i ≤ e ∧ ¬ (runN isDigit s i < s.length ∧ isLetter (byteAt s (runN isDigit s i)) = true) := by
        unfold nextM at he h0
        dsimp only at he h0
        rw [if_neg h1, if_pos h2] at he h0
        split at h0
        · simp at h0
        rename_i h3
        rw [if_neg h3] at he
        split at h0
        · simp at h0
        rename_i h4
        rw [if_neg h4] at he
        split at h0
        · simp at h0
        rename_i h5
        rw [if_neg h5] at he
        simp only [sub_len hd2] at he
        exact ⟨by omega, h5⟩
      obtain ⟨hj, hj2⟩ := hj
      have hj3 : ¬ (runN isDigit s i < (s.take e).length ∧ isLetter (byteAt (s.take e) (runN isDigit s i)) = true) := by
        rw [hle]
        rintro ⟨g1, g2⟩
        rw [byteAt_take g1] at g2
        exact hj2 ⟨by omega, g2⟩
      unfold nextM
      dsimp only
      rw [hb, if_neg h1, if_neg h1, if_pos h2, if_pos h2, runN_take hj, sub_take hj, if_neg hj2, if_neg hj3]
    · by_cases h3 : twoAt s i = true
      · have hlt : i + 1 < s.length := by
          unfold twoAt at h3
          simp only [Bool.and_eq_true, decide_eq_true_eq] at h3
          exact h3.1
        have hj : i + 2 ≤ e := by
          unfold nextM at he
          dsimp only at he
          rw [if_neg h1, if_neg h2, if_pos h3] at he
          simp only [sub_len (show i + 2 ≤ s.length by omega)] at he
          omega
        have h3' : twoAt (s.take e) i = true := by
          unfold twoAt at *
          rw [hle, hb, byteAt_take (by omega), sub_take hj]
          simp only [Bool.and_eq_true, decide_eq_true_eq] at h3 ⊢
          exact ⟨by omega, h3.2⟩
        unfold nextM
        dsimp only
        rw [hb, if_neg h1, if_neg h1, if_neg h2, if_neg h2, if_pos h3, if_pos h3', sub_take hj]
      · have h3' : ¬ twoAt (s.take e) i = true := by
          intro h4
          apply h3
          unfold twoAt at *
          rw [hle] at h4
          simp only [Bool.and_eq_true, decide_eq_true_eq] at h4 ⊢
          rw [hb, byteAt_take (by omega), sub_take (by omega)] at h4
          exact ⟨by omega, h4.2⟩
        unfold nextM
        dsimp only
        rw [hb, if_neg h1, if_neg h1, if_neg h2, if_neg h2, if_neg h3, if_neg h3', sub_take (by omega)]
theorem hasPre_take {s : List UInt8} {i e : Nat} (h : i + 2 ≤ e) : hasPre ((s.take e).drop i) [47, 47] = hasPre (s.drop i) [47, 47] := by
  unfold hasPre
  rw [List.drop_take, List.length_take, List.take_take]
  have : min ([47, 47] : List UInt8).length (e - i) = ([47, 47] : List UInt8).length := by simp; omega
  rw [this]
  congr 1
  simp
  omega
theorem hasPre_take_no {s : List UInt8} {i e : Nat} (h : ¬ hasPre (s.drop i) [47, 47] = true) : ¬ hasPre ((s.take e).drop i) [47, 47] = true := by
  by_cases h2 : i + 2 ≤ e
  · rw [hasPre_take h2]; exact h
  · unfold hasPre
    rw [List.drop_take, List.length_take]
    simp
    intro
    omega
theorem hasPre_two {s : List UInt8} {i : Nat} (h : i < s.length) (hp : hasPre (s.drop i) [47, 47] = true) : i + 2 ≤ runN (ofI notEndI) s i := by
  have h1 : i + 1 < s.length := by
    simp only [hasPre, Bool.and_eq_true, decide_eq_true_eq] at hp
    have := hp.1
    simp at this
    omega
  rw [runN_step h, if_pos (hasPre_run h hp)]
  refine runN_pos h1 ?_
  simp only [hasPre, Bool.and_eq_true, decide_eq_true_eq] at hp
  have h2 := hp.2
  rw [drop_nth h, drop_nth h1] at h2
  simp at h2
  have hb : byteAt s (i + 1) = 47 := h2.2
  rw [hb]; decide
theorem lexA_cut {s : List UInt8} : ∀ (m i : Nat) (acc : List Tok), s.length - i ≤ m → i ≤ s.length → (lexA s i acc).2.1 = 0 →
    ∃ ts, lexA s i acc = (acc ++ ts, 0, 0) ∧ ∀ k (hk : k < ts.length), i < ts[k].pos + ts[k].text.length ∧ ts[k].pos + ts[k].text.length ≤ s.length ∧
      lexA (s.take (ts[k].pos + ts[k].text.length)) i acc = (acc ++ ts.take (k + 1), 0, 0) := by
  intro m
  induction m with
  | zero =>
    intro i acc h hi _
    refine ⟨[], by rw [lexA.eq_1, dif_neg (by omega)]; simp, by simp⟩
  | succ m ih =>
    intro i acc h hi h0
    by_cases h1 : i < s.length
    · by_cases h2 : isBlank (byteAt s i) = true
      · have e1 := lexA_skip1 acc h1 h2
        rw [e1] at h0 ⊢
        obtain ⟨ts, g1, g2⟩ := ih (i + 1) acc (by omega) (by omega) h0
        refine ⟨ts, g1, fun k hk => ?_⟩
        obtain ⟨k1, k2, k3⟩ := g2 k hk
        refine ⟨by omega, k2, ?_⟩
        rw [lexA_skip1 acc (by simp; omega) (by rw [byteAt_take (by omega)]; exact h2)]
        exact k3
      · by_cases h3 : hasPre (s.drop i) [47, 47] = true
        · have hr := hasPre_two h1 h3
          have hr2 := runN_lt (ofI notEndI) hi
          have e1 : lexA s i acc = lexA s (runN (ofI notEndI) s i) acc := by
            rw [lexA.eq_1, dif_pos h1, if_neg h2, if_pos h3, Nat.max_eq_right (by omega)]
          rw [e1] at h0 ⊢
          obtain ⟨ts, g1, g2⟩ := ih _ acc (by omega) hr2 h0
          refine ⟨ts, g1, fun k hk => ?_⟩
          obtain ⟨k1, k2, k3⟩ := g2 k hk
          refine ⟨by omega, k2, ?_⟩
          rw [lexA.eq_1, dif_pos (by simp; omega), if_neg (by rw [byteAt_take (by omega)]; exact h2), if_pos (by rw [hasPre_take (by omega)]; exact h3), runN_take (by omega), Nat.max_eq_right (by omega)]
          exact k3
        · by_cases h4 : (nextM s i).2.1 = 0
          · have hp := nextM_pos h1 h4
            have e1 : lexA s i acc = lexA s (i + (nextM s i).1.text.length) (acc ++ [(nextM s i).1]) := by
              rw [lexA.eq_1, dif_pos h1, if_neg h2, if_neg h3, if_pos h4, Nat.max_eq_right (by omega)]
            rw [e1] at h0 ⊢
            obtain ⟨ts, g1, g2⟩ := ih _ (acc ++ [(nextM s i).1]) (by omega) hp.2 h0
            have hpos := (nextM_at h1).2
            have step : ∀ e, i + (nextM s i).1.text.length ≤ e → e ≤ s.length → lexA (s.take e) i acc = lexA (s.take e) (i + (nextM s i).1.text.length) (acc ++ [(nextM s i).1]) := by
              intro e he hl
              rw [lexA.eq_1, dif_pos (by simp; omega), if_neg (by rw [byteAt_take (by omega)]; exact h2), if_neg (hasPre_take_no h3), nextM_take h1 h4 he hl, if_pos h4, Nat.max_eq_right (by omega)]
            refine ⟨(nextM s i).1 :: ts, by rw [g1]; simp, fun k hk => ?_⟩
            cases k with
            | zero =>
              simp only [List.getElem_cons_zero, hpos]
              refine ⟨by omega, hp.2, ?_⟩
              rw [step _ (Nat.le_refl _) hp.2, lexA.eq_1, dif_neg (by simp; omega)]
              simp
            | succ k =>
              obtain ⟨k1, k2, k3⟩ := g2 k (by simpa using hk)
              simp only [List.getElem_cons_succ]
              refine ⟨by omega, k2, ?_⟩
              rw [step _ (by omega) k2, k3]
              simp
          · exfalso
            rw [lexA.eq_1, dif_pos h1, if_neg h2, if_neg h3, if_neg h4] at h0
            exact h4 h0
    · refine ⟨[], by rw [lexA.eq_1, dif_neg h1]; simp, by simp⟩
theorem lex_cut {s : List UInt8} {l : List Tok} {p n : Nat} (h : lexP s = (l, 0, p)) (hn : n < l.length) :
    (nth l n).pos + (nth l n).text.length ≤ s.length ∧ s.length ≤ 65536 ∧ lexP (s.take ((nth l n).pos + (nth l n).text.length)) = (l.take (n + 1), 0, 0) := by
  have hs : ¬ (65536 : Int) < s.length := by
    intro hh
    unfold lexP at h
    rw [if_pos hh] at h
    simp at h
  have e1 : lexP s = lexA s 0 [] := by unfold lexP; rw [if_neg hs]
  rw [e1] at h
  obtain ⟨ts, g1, g2⟩ := lexA_cut (s := s) s.length 0 [] (by omega) (by omega) (by rw [h])
  rw [h] at g1
  simp at g1
  obtain ⟨rfl, rfl⟩ := g1
  have e2 : nth l n = l[n] := by simp [nth, hn]
  obtain ⟨k1, k2, k3⟩ := g2 n hn
  rw [e2]
  refine ⟨k2, by omega, ?_⟩
  unfold lexP
  rw [if_neg (by simp; omega), k3]
  simp
end Go.Proofs.Ytblmmaecklgbhaa
