/- A part of the proof of a law of this seat: no condition. -/
import Derived.Test.YtblmmaecklgbhaaJ3
import Derived.Test.YtblmmaecklgbhaaL13
set_option linter.unusedSimpArgs false
set_option linter.unusedVariables false
namespace Go.Proofs.Ytblmmaecklgbhaa
open Go.Ax
/-- A text that is one token by itself. -/
structure Tk (k : Nat) (x : List UInt8) : Prop where
  ne : x ≠ []
  next : nextM x 0 = (⟨k, x, 0⟩, 0, 0)
  nb : ¬ isBlank (byteAt x 0) = true
  np : ¬ hasPre x [47, 47] = true
theorem nextM_00 {s : List UInt8} {i : Nat} (h0 : (nextM s i).2.1 = 0) : (nextM s i).2.2 = 0 := by
  unfold nextM at h0 ⊢
  dsimp only at h0 ⊢
  split <;> rename_i h1
  · rw [if_pos h1] at h0
    split <;> rename_i h2
    · rw [if_pos h2] at h0; simp at h0
    · rfl
  · rw [if_neg h1] at h0
    split <;> rename_i h2
    · rw [if_pos h2] at h0
      split <;> rename_i h3
      · rw [if_pos h3] at h0; simp at h0
      · rw [if_neg h3] at h0
        split <;> rename_i h4
        · rw [if_pos h4] at h0; simp at h0
        · rw [if_neg h4] at h0
          split <;> rename_i h5
          · rw [if_pos h5] at h0; simp at h0
          · rfl
    · rw [if_neg h2] at h0
      split <;> rename_i h3
      · rfl
      · rw [if_neg h3] at h0
        split <;> rename_i h4
        · rw [if_pos h4] at h0; simp at h0
        · rfl
theorem tk_of {s : List UInt8} {i : Nat} (hi : i < s.length) (hb : ¬ isBlank (byteAt s i) = true) (hp : ¬ hasPre (s.drop i) [47, 47] = true) (h0 : (nextM s i).2.1 = 0) :
    Tk (nextM s i).1.kind (nextM s i).1.text := by
  obtain ⟨p1, p2⟩ := nextM_pos hi h0
  obtain ⟨T, hT⟩ : ∃ T, (nextM s i).1 = T := ⟨_, rfl⟩
  rw [hT] at p1 p2 ⊢
  have hpos : T.pos = i := by rw [← hT]; exact (nextM_at hi).2
  have hcut := nextM_take hi h0 (e := i + T.text.length) (by rw [hT]; omega) p2
  have hsub : T.text = sub s i (i + T.text.length) := by
    rw [← hT]
    have hr2 := runN_lt isWordB (Nat.le_of_lt hi)
    have hd2 := runN_lt isDigit (Nat.le_of_lt hi)
    have hr3 := runN_le isWordB s i
    have hd3 := runN_le isDigit s i
    have hs : ∀ e, i ≤ e → e ≤ s.length → sub s i e = sub s i (i + (sub s i e).length) := fun e h1 h2 => by rw [sub_len h2]; congr 1; omega
    unfold nextM at h0 ⊢
    dsimp only at h0 ⊢
    split at h0 <;> rename_i h1
    · rw [if_pos h1]
      split at h0
      · simp at h0
      · rename_i h2
        rw [if_neg h2]
        exact hs _ hr3 hr2
    · rw [if_neg h1]
      split at h0 <;> rename_i h2
      · rw [if_pos h2]
        split at h0
        · simp at h0
        rename_i h3
        rw [if_neg h3]
        split at h0
        · simp at h0
        rename_i h4
        rw [if_neg h4]
        split at h0
        · simp at h0
        rename_i h5
        rw [if_neg h5]
        exact hs _ hd3 hd2
      · rw [if_neg h2]
        split at h0 <;> rename_i h3
        · rw [if_pos h3]
          have : i + 1 < s.length := by
            unfold twoAt at h3
            simp only [Bool.and_eq_true, decide_eq_true_eq] at h3
            exact h3.1
          exact hs _ (by omega) (by omega)
        · rw [if_neg h3]
          split at h0
          · simp at h0
          · rename_i h4
            rw [if_neg h4]
            exact hs _ (by omega) (by omega)
  obtain ⟨u, hu⟩ : ∃ u, s.take i = u := ⟨_, rfl⟩
  have hul : u.length = i := by rw [← hu]; simp; omega
  have hsp : s.take (i + T.text.length) = u ++ T.text := by
    have h := List.take_append_drop i (s.take (i + T.text.length))
    rw [List.take_take, Nat.min_eq_left (by omega), hu] at h
    refine h.symm.trans ?_
    congr 1
    exact hsub.symm
  obtain ⟨x, hx⟩ : ∃ x, T.text = x := ⟨_, rfl⟩
  rw [hx] at hsp hcut p1 ⊢
  have hsh := nextM_app u x 0
  rw [Nat.add_zero, hul, ← hsp, hcut, hT] at hsh
  obtain ⟨g1, g2, g3⟩ := hsh
  rw [h0] at g2
  have g4 := nextM_00 g2.symm
  refine ⟨fun e => by rw [e] at p1; simp at p1, ?_, ?_, ?_⟩
  · clear hsub hcut hsp
    generalize nextM x 0 = N at g1 g2 g4 ⊢
    obtain ⟨⟨k', x', p'⟩, a, b⟩ := N
    simp only [shT] at g1 g2 g4
    subst g1
    simp only at hx hpos ⊢
    have : p' = 0 := by omega
    rw [hx, this, ← g2, g4]
  · have := byteAt_app u x 0
    rw [Nat.add_zero, hul, ← hsp, byteAt_take (by omega)] at this
    rw [← this]; exact hb
  · have := hasPre_take_no (e := i + x.length) hp
    rw [hsp] at this
    have h2 := hasPre_app u x 0 [47, 47]
    rw [Nat.add_zero, hul] at h2
    rw [h2] at this
    simpa using this
theorem toks_tk {s : List UInt8} : ∀ (m i : Nat) (acc : List Tok), s.length - i ≤ m → i ≤ s.length → (∀ t ∈ acc, Tk t.kind t.text) → ∀ t ∈ (lexA s i acc).1, Tk t.kind t.text := by
  intro m
  induction m with
  | zero => intro i acc h hi ha; rw [lexA.eq_1, dif_neg (by omega)]; exact ha
  | succ m ih =>
    intro i acc h hi ha
    rw [lexA.eq_1]
    split
    · rename_i h1
      split
      · exact ih (i + 1) acc (by omega) (by omega) ha
      · rename_i h2
        split
        · have := runN_lt (ofI notEndI) hi
          exact ih _ acc (by omega) (by omega) ha
        · rename_i h3
          split
          · rename_i h4
            have hp := nextM_pos h1 h4
            refine ih _ _ (by omega) (by omega) fun t ht => ?_
            rcases List.mem_append.1 ht with ht | ht
            · exact ha t ht
            · simp at ht
              subst ht
              exact tk_of h1 h2 h3 h4
          · simp
    · exact ha
/-- What stands behind a token. -/
def Sep (v : List UInt8) : Prop := v = [] ∨ ∃ v', v = 32 :: v'
theorem runN_sep {p : UInt8 → Bool} (hp : p 32 = false) {x v : List UInt8} (hv : Sep v) (h : runN p x 0 = x.length) : runN p (x ++ v) 0 = x.length := by
  unfold runN at *
  simp only [List.drop_zero, Nat.zero_add] at *
  have hall : ∀ a ∈ x, p a = true := by
    have : x.takeWhile p = x := (List.takeWhile_sublist p).eq_of_length h
    intro a ha
    have h2 := List.all_takeWhile (p := p) (l := x)
    rw [this] at h2
    exact List.all_eq_true.1 h2 a ha
  rw [List.takeWhile_append_of_pos hall]
  rcases hv with rfl | ⟨v', rfl⟩
  · simp
  · simp [hp]
theorem byteAt_left {x v : List UInt8} {j : Nat} (h : j < x.length) : byteAt (x ++ v) j = byteAt x j := by
  simp [byteAt, List.getD_eq_getElem?_getD, List.getElem?_append_left h]
theorem sub_left {x v : List UInt8} {i e : Nat} (h : e ≤ x.length) : sub (x ++ v) i e = sub x i e := by
  unfold sub; rw [List.take_append_of_le_length h]
theorem sub_all (x : List UInt8) : sub x 0 x.length = x := by simp [sub]
theorem nextM_sep {k : Nat} {x v : List UInt8} (hx : Tk k x) (hv : Sep v) : nextM (x ++ v) 0 = (⟨k, x, 0⟩, 0, 0) := by
  obtain ⟨hne, hn, hb, hp⟩ := hx
  have hl : 0 < x.length := List.length_pos_iff.2 hne
  have hby := byteAt_left (v := v) hl
  have hend : ∀ e, sub x 0 e = x → e ≤ x.length → e = x.length := fun e h1 h2 => by
    have := congrArg List.length h1
    rw [sub_len h2] at this
    omega
  have hr2 := runN_lt isWordB (Nat.zero_le x.length)
  have hd2 := runN_lt isDigit (Nat.zero_le x.length)
  unfold nextM at hn ⊢
  dsimp only at hn ⊢
  rw [hby]
  split at hn <;> rename_i h1
  · rw [if_pos h1]
    split at hn
    · simp at hn
    · rename_i h2
      simp only [Prod.mk.injEq, Tok.mk.injEq, and_true] at hn
      obtain ⟨hk, he⟩ := hn
      have hr := hend _ he hr2
      rw [hr] at h2 he
      rw [runN_sep (by decide) hv hr, sub_left (Nat.le_refl _), if_neg h2, hk, he]
  · rw [if_neg h1]
    split at hn <;> rename_i h2
    · rw [if_pos h2]
      split at hn
      · simp at hn
      rename_i h3
      split at hn
      · simp at hn
      rename_i h4
      split at hn
      · simp at hn
      rename_i h5
      simp only [Prod.mk.injEq, Tok.mk.injEq, and_true] at hn
      obtain ⟨hk, he⟩ := hn
      have hr := hend _ he hd2
      rw [hr] at h3 h4 he
      rw [runN_sep (by decide) hv hr, sub_left (Nat.le_refl _), if_neg h3, if_neg h4, if_neg ?_, hk, he]
      rintro ⟨q1, q2⟩
      rcases hv with rfl | ⟨v', rfl⟩
      · simp at q1
      · have : byteAt (x ++ 32 :: v') x.length = 32 := by
          have := byteAt_app x (32 :: v') 0
          rw [Nat.add_zero] at this
          rw [this]; rfl
        rw [this] at q2
        exact absurd q2 (by decide)
    · rw [if_neg h2]
      split at hn <;> rename_i h3
      · -- two bytes
        simp only [Prod.mk.injEq, Tok.mk.injEq, and_true] at hn
        obtain ⟨hk, he⟩ := hn
        have h3' := h3
        unfold twoAt at h3'
        simp only [Bool.and_eq_true, decide_eq_true_eq, Nat.zero_add] at h3'
        have hx2 : x.length = 2 := by
          have := congrArg List.length he
          rw [sub_len (by omega)] at this
          omega
        have ht : twoAt (x ++ v) 0 = true := by
          unfold twoAt at h3 ⊢
          rw [byteAt_left (by omega), byteAt_left (by omega), sub_left (by omega)]
          simp only [Bool.and_eq_true, decide_eq_true_eq, List.length_append] at h3 ⊢
          exact ⟨by omega, h3.2⟩
        rw [if_pos ht, sub_left (by omega), he, hk]
      · split at hn
        · simp at hn
        · rename_i h4
          simp only [Prod.mk.injEq, Tok.mk.injEq, and_true] at hn
          obtain ⟨hk, he⟩ := hn
          have hx1 : x.length = 1 := by
            have := congrArg List.length he
            rw [sub_len (by omega)] at this
            omega
          have ht : ¬ twoAt (x ++ v) 0 = true := by
            unfold twoAt
            intro h
            simp only [Bool.and_eq_true, decide_eq_true_eq, List.length_append, Nat.zero_add] at h
            rcases hv with rfl | ⟨v', rfl⟩
            · simp at h; omega
            · have : byteAt (x ++ 32 :: v') 1 = 32 := by
                have := byteAt_app x (32 :: v') 0
                rw [Nat.add_zero, hx1] at this
                rw [this]; rfl
              rw [this] at h
              exact absurd h.2.1 (by decide)
          rw [if_neg ht, if_neg h4, sub_left (by omega), he, hk]
/-- One token more. -/
theorem lexA_tok {k : Nat} {u x v : List UInt8} (hx : Tk k x) (hv : Sep v) (acc : List Tok) : lexA (u ++ (x ++ v)) u.length acc = lexA (u ++ (x ++ v)) (u.length + x.length) (acc ++ [⟨k, x, u.length⟩]) := by
  have hl : 0 < x.length := List.length_pos_iff.2 hx.ne
  have hn := nextM_sep hx hv
  have ha := nextM_app u (x ++ v) 0
  rw [Nat.add_zero, hn] at ha
  obtain ⟨a1, a2, _⟩ := ha
  have hby := byteAt_app u (x ++ v) 0
  rw [Nat.add_zero, byteAt_left hl] at hby
  have hpr := hasPre_app u (x ++ v) 0 [47, 47]
  rw [Nat.add_zero, List.drop_zero] at hpr
  have hpx : ¬ hasPre (x ++ v) [47, 47] = true := by
    intro h
    apply hx.np
    simp only [hasPre, Bool.and_eq_true, decide_eq_true_eq, List.length_cons, List.length_nil, Nat.zero_add] at h ⊢
    by_cases h2 : 2 ≤ x.length
    · rw [List.take_append_of_le_length (by omega)] at h
      exact ⟨h2, h.2⟩
    · exfalso
      have hx1 : x.length = 1 := by omega
      rcases hv with rfl | ⟨v', rfl⟩
      · simp at h; omega
      · obtain ⟨a, rfl⟩ : ∃ a, x = [a] := List.length_eq_one_iff.1 hx1
        simp at h
  rw [lexA.eq_1, dif_pos (by simp; omega), if_neg (by rw [hby]; exact hx.nb), if_neg (by rw [hpr]; exact hpx), if_pos (by rw [a2]), a1]
  simp only [shT, Nat.add_zero]
  rw [show max (u.length + 1) (u.length + x.length) = u.length + x.length by omega]
/-- The tokens again, each where it was put. -/
def rl (l : List Tok) : List Tok := (List.range l.length).map fun i => ⟨(nth l i).kind, (nth l i).text, (sp (l.map Tok.text) i).length⟩
def suf : List (List UInt8) → List UInt8
  | [] => []
  | x :: r => 32 :: (x ++ suf r)
theorem suf_sep (l : List (List UInt8)) : Sep (suf l) := by
  cases l with
  | nil => exact .inl rfl
  | cons x r => exact .inr ⟨_, rfl⟩
theorem jn_suf (l : List (List UInt8)) : ∀ (m j : Nat), l.length - j = m → 1 ≤ j → j ≤ l.length → jn l j ++ suf (l.drop j) = jn l l.length := by
  intro m
  induction m with
  | zero => intro j h1 h2 h3; rw [show j = l.length by omega]; simp [suf]
  | succ m ih =>
    intro j h1 h2 h3
    rw [← ih (j + 1) (by omega) (by omega) (by omega), List.drop_eq_getElem_cons (by omega)]
    have : sp l j = jn l j ++ [32] := by cases j <;> simp [sp] at h2 ⊢
    rw [jn_succ, this, suf]
    simp [List.getD_eq_getElem?_getD, show j < l.length by omega]
theorem rl_len (l : List Tok) : (rl l).length = l.length := by simp [rl]
theorem rl_take (l : List Tok) (j : Nat) (h : j < l.length) : (rl l).take (j + 1) = (rl l).take j ++ [⟨(nth l j).kind, (nth l j).text, (sp (l.map Tok.text) j).length⟩] := by
  rw [List.take_succ_eq_append_getElem (by rw [rl_len]; exact h)]
  simp [rl]
theorem nth_map (l : List Tok) (j : Nat) (h : j < l.length) : (l.map Tok.text).getD j [] = (nth l j).text := by
  simp [nth, List.getD_eq_getElem?_getD, h]
theorem relex_from {l : List Tok} (hk : ∀ t ∈ l, Tk t.kind t.text) : ∀ (m j : Nat), l.length - j = m → 1 ≤ j → j ≤ l.length →
    lexA (jn (l.map Tok.text) l.length) (jn (l.map Tok.text) j).length ((rl l).take j) = (rl l, 0, 0) := by
  intro m
  induction m with
  | zero =>
    intro j h1 h2 h3
    rw [show j = l.length by omega, lexA.eq_1, dif_neg (by omega), List.take_of_length_le (by rw [rl_len]; exact Nat.le_refl _)]
  | succ m ih =>
    intro j h1 h2 h3
    have hlm : (l.map Tok.text).length = l.length := by simp
    have hsp : sp (l.map Tok.text) j = jn (l.map Tok.text) j ++ [32] := by cases j <;> simp [sp] at h2 ⊢
    have e1 := jn_suf (l.map Tok.text) (m + 1) j (by rw [hlm]; exact h1) h2 (by rw [hlm]; exact h3)
    rw [hlm, List.drop_eq_getElem_cons (by rw [hlm]; omega), suf] at e1
    have hget : (l.map Tok.text)[j]'(by rw [hlm]; omega) = (nth l j).text := by
      simp [nth, List.getD_eq_getElem?_getD, show j < l.length by omega]
    rw [hget] at e1
    have hj := hk (nth l j) (by
      simp [nth, List.getD_eq_getElem?_getD, show j < l.length by omega])
    have e2 : jn (l.map Tok.text) l.length = sp (l.map Tok.text) j ++ ((nth l j).text ++ suf ((l.map Tok.text).drop (j + 1))) := by
      rw [← e1, hsp]; simp
    have hbl : byteAt (jn (l.map Tok.text) l.length) (jn (l.map Tok.text) j).length = 32 := by
      rw [← e1]
      exact (byteAt_app (jn (l.map Tok.text) j) (32 :: ((nth l j).text ++ suf ((l.map Tok.text).drop (j + 1)))) 0).trans rfl
    have hlt : (jn (l.map Tok.text) j).length < (jn (l.map Tok.text) l.length).length := by
      rw [← e1]; simp
    rw [lexA_skip1 _ hlt (by rw [hbl]; decide)]
    have hs2 : (jn (l.map Tok.text) j).length + 1 = (sp (l.map Tok.text) j).length := by rw [hsp]; simp
    rw [hs2, e2, lexA_tok hj (suf_sep _), ← rl_take l j (by omega), ← e2]
    have := ih (j + 1) (by omega) (by omega) (by omega)
    rw [jn_succ, nth_map l j (by omega), List.length_append] at this
    exact this
theorem relex {l : List Tok} (hk : ∀ t ∈ l, Tk t.kind t.text) (h : (jn (l.map Tok.text) l.length).length ≤ 65536) : lexP (jn (l.map Tok.text) l.length) = (rl l, 0, 0) := by
  unfold lexP
  rw [if_neg (by omega)]
  cases hl : l with
  | nil =>
    rw [lexA.eq_1, dif_neg (by simp [jn])]
    rfl
  | cons t r =>
    rw [← hl]
    have hn : 1 ≤ l.length := by rw [hl]; simp
    have hlm : (l.map Tok.text).length = l.length := by simp
    have e1 := jn_suf (l.map Tok.text) (l.length - 1) 1 (by rw [hlm]) (Nat.le_refl _) (by rw [hlm]; exact hn)
    rw [hlm] at e1
    have h1 : jn (l.map Tok.text) 1 = (nth l 0).text := by rw [jn_succ, nth_map l 0 (by omega)]; rfl
    have h0 := hk (nth l 0) (by simp [nth, List.getD_eq_getElem?_getD, show 0 < l.length by omega])
    have := lexA_tok (u := []) h0 (suf_sep ((l.map Tok.text).drop 1)) []
    rw [List.nil_append, ← h1, e1] at this
    rw [List.length_nil] at this
    rw [this, List.nil_append, Nat.zero_add]
    have h2 := relex_from hk (l.length - 1) 1 rfl (Nat.le_refl _) hn
    have h3 := rl_take l 0 (by omega)
    rw [Nat.zero_add, List.take_zero, List.nil_append] at h3
    rw [h3] at h2
    rw [h1] at h2 ⊢
    exact h2
theorem tks (s : List UInt8) : ∀ t ∈ (lexP s).1, Tk t.kind t.text := by
  unfold lexP
  split
  · simp
  · exact toks_tk s.length 0 [] (by omega) (by omega) (by simp)
theorem texts_len (s : List UInt8) : ∀ t ∈ (lexP s).1, t.text.length ≤ 65536 := by
  have key : ∀ (m i : Nat) (acc : List Tok), s.length - i ≤ m → i ≤ s.length → (∀ t ∈ acc, t.text.length ≤ s.length) → ∀ t ∈ (lexA s i acc).1, t.text.length ≤ s.length := by
    intro m
    induction m with
    | zero => intro i acc h hi ha; rw [lexA.eq_1, dif_neg (by omega)]; exact ha
    | succ m ih =>
      intro i acc h hi ha
      rw [lexA.eq_1]
      split
      · rename_i h1
        split
        · exact ih (i + 1) acc (by omega) (by omega) ha
        · split
          · have := runN_lt (ofI notEndI) hi
            exact ih _ acc (by omega) (by omega) ha
          · split
            · rename_i h4
              have hp := nextM_pos h1 h4
              refine ih _ _ (by omega) (by omega) fun t ht => ?_
              rcases List.mem_append.1 ht with ht | ht
              · exact ha t ht
              · simp at ht
                subst ht
                omega
            · simp
      · exact ha
  unfold lexP
  split
  · simp
  · intro t ht
    have := key s.length 0 [] (by omega) (by omega) (by simp) t ht
    omega
end Go.Proofs.Ytblmmaecklgbhaa
