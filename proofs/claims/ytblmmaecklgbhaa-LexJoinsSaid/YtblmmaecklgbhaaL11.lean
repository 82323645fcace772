/- A part of the proof of a law of this seat: no condition. -/
import Derived.Test.YtblmmaecklgbhaaL9
set_option linter.unusedSimpArgs false
set_option linter.unusedVariables false
set_option maxRecDepth 20000
namespace Go.Proofs.Ytblmmaecklgbhaa
open Go.Ax
/-! ### the cutting, moved -/
theorem byteAt_app (u s : List UInt8) (i : Nat) : byteAt (u ++ s) (u.length + i) = byteAt s i := by
  simp [byteAt, List.getD_eq_getElem?_getD, List.getElem?_append_right]
theorem drop_app (u s : List UInt8) (i : Nat) : (u ++ s).drop (u.length + i) = s.drop i := by
  simp [List.drop_append]
theorem runN_app (p : UInt8 → Bool) (u s : List UInt8) (i : Nat) : runN p (u ++ s) (u.length + i) = u.length + runN p s i := by
  unfold runN; rw [drop_app]; omega
theorem sub_app (u s : List UInt8) (i e : Nat) : sub (u ++ s) (u.length + i) (u.length + e) = sub s i e := by
  unfold sub
  rw [List.drop_take, List.drop_take, drop_app, show u.length + e - (u.length + i) = e - i by omega]
def shT (k : Nat) (t : Tok) : Tok := ⟨t.kind, t.text, k + t.pos⟩
theorem twoAt_app (u s : List UInt8) (i : Nat) : twoAt (u ++ s) (u.length + i) = twoAt s i := by
  unfold twoAt
  rw [show u.length + i + 1 = u.length + (i + 1) by omega, show u.length + i + 2 = u.length + (i + 2) by omega, byteAt_app, byteAt_app, sub_app, List.length_append]
  congr 1
  simp
theorem nextM_app (u s : List UInt8) (i : Nat) : (nextM (u ++ s) (u.length + i)).1 = shT u.length (nextM s i).1 ∧ (nextM (u ++ s) (u.length + i)).2.1 = (nextM s i).2.1 ∧
    ((nextM s i).2.1 ≠ 0 → (nextM (u ++ s) (u.length + i)).2.2 = u.length + (nextM s i).2.2) := by
  unfold nextM
  dsimp only
  rw [byteAt_app, runN_app, runN_app, sub_app, sub_app, twoAt_app, byteAt_app, show u.length + i + 1 = u.length + (i + 1) by omega, show u.length + i + 2 = u.length + (i + 2) by omega, sub_app, sub_app]
  have hl : (u.length + runN isDigit s i < (u ++ s).length) ↔ (runN isDigit s i < s.length) := by simp
  simp only [hl]
  repeat' split
  all_goals simp [shT]
theorem hasPre_app (u s : List UInt8) (i : Nat) (t : List UInt8) : hasPre ((u ++ s).drop (u.length + i)) t = hasPre (s.drop i) t := by rw [drop_app]
def shR (k : Nat) (r : List Tok × Nat × Nat) : List Tok × Nat × Nat := (r.1.map (shT k), r.2.1, if r.2.1 = 0 then r.2.2 else k + r.2.2)
theorem lexA_app (u s : List UInt8) : ∀ (n i : Nat) (acc : List Tok), s.length - i ≤ n → lexA (u ++ s) (u.length + i) (acc.map (shT u.length)) = shR u.length (lexA s i acc) := by
  intro n
  induction n with
  | zero =>
    intro i acc h
    rw [lexA.eq_1, dif_neg (by simp; omega), lexA.eq_1, dif_neg (by omega)]
    rfl
  | succ n ih =>
    intro i acc h
    rw [lexA.eq_1, lexA.eq_1 s]
    by_cases h1 : i < s.length
    · rw [dif_pos (by simp; omega), dif_pos h1, byteAt_app, hasPre_app, runN_app]
      obtain ⟨e1, e2, e3⟩ := nextM_app u s i
      rw [e1, e2]
      by_cases h2 : isBlank (byteAt s i) = true
      · rw [if_pos h2, if_pos h2, show u.length + i + 1 = u.length + (i + 1) by omega]
        exact ih _ _ (by omega)
      · rw [if_neg h2, if_neg h2]
        by_cases h3 : hasPre (s.drop i) [47, 47] = true
        · rw [if_pos h3, if_pos h3, show max (u.length + i + 1) (u.length + runN (ofI notEndI) s i) = u.length + max (i + 1) (runN (ofI notEndI) s i) by omega]
          exact ih _ _ (by omega)
        · rw [if_neg h3, if_neg h3]
          by_cases h4 : (nextM s i).2.1 = 0
          · rw [if_pos h4, if_pos h4, ← ih _ _ (by omega)]
            congr 1
            · simp only [shT]; omega
            · simp
          · rw [if_neg h4, if_neg h4, e3 h4]
            simp [shR, h4]
    · rw [dif_neg (by simp; omega), dif_neg h1]
      rfl
/-- A remark, its line's end and blanks ahead change nothing but places. -/
theorem lexA_skip1 {s : List UInt8} {i : Nat} (acc : List Tok) (h : i < s.length) (hb : isBlank (byteAt s i) = true) : lexA s i acc = lexA s (i + 1) acc := by
  rw [lexA.eq_1, dif_pos h, if_pos hb]
theorem lexA_blanks {s : List UInt8} : ∀ (n i : Nat) (acc : List Tok), i + n ≤ s.length → (∀ j, i ≤ j → j < i + n → isBlank (byteAt s j) = true) → lexA s i acc = lexA s (i + n) acc := by
  intro n
  induction n with
  | zero => intros; rfl
  | succ n ih =>
    intro i acc h hb
    rw [lexA_skip1 acc (by omega) (hb i (by omega) (by omega)), ih (i + 1) acc (by omega) (fun j h1 h2 => hb j (by omega) (by omega)), show i + 1 + n = i + (n + 1) by omega]
theorem lex_remark {remark bl s : List UInt8} (hr : ∀ c ∈ remark, (c.toNat : Int) ≠ 10) (hb : ∀ c ∈ bl, isBlank c = true)
    (hl : ([47, 47] ++ remark ++ [10] ++ bl ++ s).length ≤ 65536) :
    lexP ([47, 47] ++ remark ++ [10] ++ bl ++ s) = shR ([47, 47] ++ remark ++ [10] ++ bl).length (lexP s) := by
  have hls : s.length ≤ 65536 := by simp only [List.length_append] at hl; omega
  have e1 : lexP s = lexA s 0 [] := by unfold lexP; rw [if_neg (by omega)]
  have e2 : lexP ([47, 47] ++ remark ++ [10] ++ bl ++ s) = lexA ([47, 47] ++ remark ++ [10] ++ bl ++ s) 0 [] := by unfold lexP; rw [if_neg (by omega)]
  rw [e1, e2]
  have key := lexA_app ([47, 47] ++ remark ++ [10] ++ bl) s s.length 0 [] (by omega)
  rw [← key]
  simp only [List.map_nil, Nat.add_zero]
  generalize hw : [47, 47] ++ remark ++ [10] ++ bl ++ s = w
  have hlen : w.length = 2 + remark.length + 1 + bl.length + s.length := by rw [← hw]; simp; omega
  have hbyte : ∀ k, byteAt w k = ([47, 47] ++ remark ++ [10] ++ bl ++ s).getD k 0 := fun k => by rw [← hw]; rfl
  have hrun : runN (ofI notEndI) w 0 = 2 + remark.length := by
    unfold runN
    rw [← hw, List.drop_zero, Nat.zero_add]
    have : [47, 47] ++ remark ++ [10] ++ bl ++ s = ([47, 47] ++ remark) ++ (10 :: (bl ++ s)) := by simp
    rw [this, List.takeWhile_append_of_pos]
    · simp only [List.takeWhile_cons]
      have : ofI notEndI 10 = false := by decide
      rw [this]
      simp
      omega
    · intro c hc
      rcases List.mem_append.1 hc with hc | hc
      · simp at hc; subst hc; decide
      · have := hr c hc
        simp [ofI, notEndI, this]
  have h0 : lexA w 0 [] = lexA w (2 + remark.length) [] := by
    rw [lexA.eq_1, dif_pos (by omega), if_neg, if_pos, hrun, Nat.max_eq_right (by omega)]
    · rw [← hw]; simp [hasPre]
    · rw [hbyte]; simp; decide
  rw [h0]
  have hb1 : isBlank (byteAt w (2 + remark.length)) = true := by
    rw [hbyte, List.getD_eq_getElem?_getD, show [47, 47] ++ remark ++ [10] ++ bl ++ s = ([47, 47] ++ remark) ++ (10 :: (bl ++ s)) by simp, List.getElem?_append_right (by simp; omega)]
    have : 2 + remark.length - ([47, 47] ++ remark : List UInt8).length = 0 := by simp; omega
    rw [this]
    show isBlank 10 = true
    decide
  rw [lexA_skip1 [] (by omega) hb1, lexA_blanks bl.length (2 + remark.length + 1) [] (by omega) (fun j h1 h2 => ?_)]
  · congr 1
    simp; omega
  · have : byteAt w j = bl[j - (2 + remark.length + 1)]'(by omega) := by
      have hidx : j - ([47, 47] ++ remark ++ [10] : List UInt8).length = j - (2 + remark.length + 1) := by simp; omega
      rw [hbyte, List.getD_eq_getElem?_getD, List.append_assoc ([47, 47] ++ remark ++ [10]) bl s, List.getElem?_append_right (by simp; omega), List.getElem?_append_left (by rw [hidx]; omega), hidx, List.getElem?_eq_getElem (by omega)]
      rfl
    rw [this]
    exact hb _ (List.getElem_mem _)
theorem nextM_at {s : List UInt8} {i : Nat} (h : i < s.length) : (nextM s i).2.2 ≤ s.length ∧ (nextM s i).1.pos = i := by
  have hd2 := runN_lt isDigit (Nat.le_of_lt h)
  unfold nextM
  dsimp only
  repeat' split
  all_goals exact ⟨by simp only; omega, rfl⟩
theorem lexA_bound {s : List UInt8} : ∀ (n i : Nat) (acc : List Tok), s.length - i ≤ n → i ≤ s.length → (∀ t ∈ acc, t.pos ≤ s.length) → (lexA s i acc).2.2 ≤ s.length ∧ ∀ t ∈ (lexA s i acc).1, t.pos ≤ s.length := by
  intro n
  induction n with
  | zero => intro i acc h hi ha; rw [lexA.eq_1, dif_neg (by omega)]; exact ⟨by simp, ha⟩
  | succ n ih =>
    intro i acc h hi ha
    rw [lexA.eq_1]
    split
    · rename_i h1
      split
      · exact ih (i + 1) acc (by omega) (by omega) ha
      · split
        · have := runN_lt (ofI notEndI) hi
          exact ih (max (i + 1) (runN (ofI notEndI) s i)) acc (by omega) (by omega) ha
        · split
          · rename_i h4
            have hp := nextM_pos h1 h4
            refine ih (max (i + 1) (i + (nextM s i).1.text.length)) (acc ++ [(nextM s i).1]) (by omega) (by omega) (fun t ht => ?_)
            rcases List.mem_append.1 ht with ht | ht
            · exact ha t ht
            · simp at ht; subst ht; rw [(nextM_at h1).2]; omega
          · exact ⟨(nextM_at h1).1, by simp⟩
    · exact ⟨by simp, ha⟩
theorem lexP_bound (s : List UInt8) : (lexP s).2.2 ≤ 65536 ∧ ∀ t ∈ (lexP s).1, t.pos ≤ 65536 := by
  unfold lexP
  split
  · simp
  · have := lexA_bound (s := s) s.length 0 [] (by omega) (by omega) (by simp)
    exact ⟨by omega, fun t ht => by have := this.2 t ht; omega⟩
end Go.Proofs.Ytblmmaecklgbhaa
