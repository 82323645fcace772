/- A part of the proof of a law of this seat: no condition. -/
import Derived.Test.YtblmmaecklgbhaaJ4
set_option linter.unusedSimpArgs false
set_option linter.unusedVariables false
set_option maxRecDepth 20000
namespace Go.Proofs.Ytblmmaecklgbhaa
open Go.Ax
variable {m : Int}
def S11 : List (FuncId × Sp) := (17, sp17) :: S10
theorem sok11 {m : Int} : SOk Try.prog (base m) S11 := .cons fn17 sok10
def psOf (L : List (List UInt8)) : List Nat := (List.range L.length).map fun i => (sp L i).length
theorem atV_eq (L : List (List UInt8)) : atV L = (psOf L).map nV := by simp [atV, psOf]
theorem psOf_len (L : List (List UInt8)) : (psOf L).length = L.length := by simp [psOf]
theorem psOf_nth {L : List (List UInt8)} {j : Nat} (h : j < L.length) : nth (psOf L) j = (sp L j).length := by
  simp [nth, psOf, List.getD_eq_getElem?_getD, h]
theorem rl_nth {l : List Tok} {j : Nat} (h : j < l.length) : nth (rl l) j = ⟨(nth l j).kind, (nth l j).text, (sp (l.map Tok.text) j).length⟩ := by
  simp [nth, rl, List.getD_eq_getElem?_getD, h]
theorem tx_snoc {l : List Tok} {j : Nat} (h : j < l.length) : (l.map fun t => V.str t.text).take (j + 1) = (l.map fun t => V.str t.text).take j ++ [V.str (nth l j).text] := by
  rw [List.take_succ_eq_append_getElem (by simpa using h)]
  simp [nth, List.getD_eq_getElem?_getD, h]
theorem lexA_bad {s : List UInt8} : ∀ (m i : Nat) (acc : List Tok), s.length - i ≤ m → i ≤ s.length → (lexA s i acc).2.1 ≠ 0 → (lexA s i acc).1 = [] := by
  intro m
  induction m with
  | zero => intro i acc h hi hne; rw [lexA.eq_1, dif_neg (by omega)] at hne; simp at hne
  | succ m ih =>
    intro i acc h hi hne
    rw [lexA.eq_1] at hne ⊢
    split at hne
    · rename_i h1
      rw [dif_pos h1]
      split at hne
      · rename_i h2
        rw [if_pos h2]
        exact ih _ _ (by omega) (by omega) hne
      · rename_i h2
        rw [if_neg h2]
        split at hne
        · rename_i h3
          rw [if_pos h3]
          have := runN_lt (ofI notEndI) hi
          exact ih _ _ (by omega) (by omega) hne
        · rename_i h3
          rw [if_neg h3]
          split at hne
          · rename_i h4
            rw [if_pos h4]
            have hp := nextM_pos h1 h4
            exact ih _ _ (by omega) (by omega) hne
          · rename_i h4
            rw [if_neg h4]
    · simp at hne
theorem lexP_bad {s : List UInt8} {l : List Tok} {c p : Nat} (h : lexP s = (l, c, p)) (hc : c ≠ 0) : l = [] := by
  unfold lexP at h
  split at h
  · simp at h; exact h.1
  · have := lexA_bad (s := s) s.length 0 [] (by omega) (by omega) (by rw [h]; exact hc)
    rw [h] at this
    exact this
theorem law_joins (s : List UInt8) : Ok (base m) 8 [.str s] [] (.bool true) [] [] := by
  obtain ⟨l, c, p, e1⟩ : ∃ l c p, lexP s = (l, c, p) := ⟨_, _, _, rfl⟩
  have hll : l.length ≤ 65536 := by have := lexP_len s; rw [e1] at this; exact this
  by_cases hc : c = 0
  · subst hc
    have htk : ∀ t ∈ l, Tk t.kind t.text := by have := tks s; rw [e1] at this; exact this
    have htx : ∀ t ∈ l, t.text.length ≤ 65536 := by have := texts_len s; rw [e1] at this; exact this
    obtain ⟨L, hL⟩ : ∃ L, l.map Tok.text = L := ⟨_, rfl⟩
    have hLl : L.length = l.length := by rw [← hL]; simp
    have hjo : joinsOk L = true := by
      simp only [joinsOk, Bool.and_eq_true, decide_eq_true_eq, List.all_eq_true, hLl]
      refine ⟨by omega, fun x hx => ?_⟩
      rw [← hL] at hx
      obtain ⟨t, ht, rfl⟩ := List.mem_map.1 hx
      have := htx t ht
      omega
    have hst : strs (l.map fun t => V.str t.text) = some L := by rw [← hL]; simp
    obtain ⟨M, hM⟩ : ∃ M, (l.map fun t => V.str t.text) = M := ⟨_, rfl⟩
    have hMl : M.length = l.length := by rw [← hM]; simp
    have hMs : ∀ j, j < l.length → M.take (j + 1) = M.take j ++ [V.str (nth l j).text] := fun j hj => by rw [← hM]; exact tx_snoc hj
    rw [hM] at hst
    clear hM
    have hrl := rl_len l
    have hpl := psOf_len L
    rw [hLl] at hpl
    have hb16 : ∀ j, j ≤ l.length → (j + 1) * 16 ≤ 140737488355328 := fun j hj => by omega
    refine k8 (viaS sok11 ?_)
    have hp : True := trivial
    repeat' first
      | refine s_seq ?_ | refine s_skip ?_
      | ((first | refine s_reg fun K hK => ?_ | refine s_regD fun K hK => ?_ | refine c_reg fun K hK => ?_ | refine c_regD fun K hK => ?_); simp (maxSteps := 4000000) +contextual [S11, S10, sp9, sp10, encF, e1, hp]; (try (refine finD rfl ?_; simp)); refine hK _ ?_; clear hK K)
      | ((first | refine c_cond rfl (fun h => ?_) (fun h => ?_) | refine s_cond rfl (fun h => ?_) (fun h => ?_)) <;> (replace hp := And.intro h hp; clear h; try simp only [Bool.eq_false_iff, ne_eq, Bool.and_eq_true, Bool.or_eq_true, Bool.not_eq_true', decide_eq_true_eq, Bool.false_eq_true, Bool.true_eq_false, Decidable.not_not, not_true_eq_false, not_false_eq_true, false_and, true_and] at hp))
      | refine s_block ?_ | refine c_block ?_ | refine c_skip ?_ | refine s_ret ?_ | refine c_ret ?_ | refine c_exit ?_ | refine s_exit ?_ | refine leave_r ?_ | refine next_r ?_ | refine leave_n ?_ | refine next_n ?_ | refine next_e ?_ | refine leave_eq ?_ | refine leave_ne (by decide) ?_ | refine hleave .ret _ (by simp) ?_ | refine hleave (.exit _) _ (by simp) ?_ | refine c_seq ?_
    refine c_loopI (fun (j : Nat) => (⟨[(3, .slice 3 (l.map encT)), (5, .own 1 (M.take j)), (6, nV j)], []⟩ : St)) (fun j => j ≤ l.length) (fun j => l.length - j) 0 (by simp) (by simp) (fun j K' hj hnext hleave => ?_)
    have htl : (M.take j).length = j := by simp; omega
    have hw1 : IntKind.wrap .i64 ((j : Int) + 1) = ((j + 1 : Nat) : Int) := wrapN (by omega) (by omega)
    repeat' first
      | refine s_seq ?_ | refine s_skip ?_
      | ((first | refine s_reg fun K hK => ?_ | refine s_regD fun K hK => ?_ | refine c_reg fun K hK => ?_ | refine c_regD fun K hK => ?_); simp (maxSteps := 4000000) +contextual [S11, S10, encT, htl, hb16, hj, hw1, -List.length_take, hp]; (try (refine finD rfl ?_; simp)); refine hK _ ?_; clear hK K)
      | ((first | refine c_cond rfl (fun h => ?_) (fun h => ?_) | refine s_cond rfl (fun h => ?_) (fun h => ?_)) <;> (replace hp := And.intro h hp; clear h; try simp only [Bool.eq_false_iff, ne_eq, Bool.and_eq_true, Bool.or_eq_true, Bool.not_eq_true', decide_eq_true_eq, Bool.false_eq_true, Bool.true_eq_false, Decidable.not_not, not_true_eq_false, not_false_eq_true, false_and, true_and] at hp))
      | refine s_block ?_ | refine c_block ?_ | refine c_skip ?_ | refine s_ret ?_ | refine c_ret ?_ | refine c_exit ?_ | refine s_exit ?_ | refine leave_r ?_ | refine next_r ?_ | refine leave_n ?_ | refine next_n ?_ | refine next_e ?_ | refine leave_eq ?_ | refine leave_ne (by decide) ?_ | refine hleave .ret _ (by simp) ?_ | refine hleave (.exit _) _ (by simp) ?_ | refine c_seq ?_
    · have hjl : j < l.length := by simpa using hp.1
      refine hnext _ (j + 1) ?_ hjl (by omega)
      simp [hMs j hjl]
    · have hjl : j = l.length := by have := hp.1; simp at this; omega
      subst hjl
      clear hnext hleave
      have htk1 : M.take l.length = M := List.take_of_length_le (by omega)
      rw [htk1]
      obtain ⟨G, hG⟩ : ∃ G, jn L L.length = G := ⟨_, rfl⟩
      have hat := atV_eq L
      obtain ⟨R, hR⟩ : ∃ R, psOf L = R := ⟨_, rfl⟩
      rw [hR] at hat hpl
      by_cases hbig : (65536 : Int) < G.length
      · have hbig' : 65536 < G.length := by omega
        repeat' first
          | refine s_seq ?_ | refine s_skip ?_
          | ((first | refine s_reg fun K hK => ?_ | refine s_regD fun K hK => ?_ | refine c_reg fun K hK => ?_ | refine c_regD fun K hK => ?_); simp (maxSteps := 4000000) +contextual [S11, S10, sp17, hst, hjo, hG, hat, hpl, hbig, hbig', hp]; (try (refine finD rfl ?_; simp)); refine hK _ ?_; clear hK K)
          | ((first | refine c_cond rfl (fun h => ?_) (fun h => ?_) | refine s_cond rfl (fun h => ?_) (fun h => ?_)) <;> (replace hp := And.intro h hp; clear h; try simp only [Bool.eq_false_iff, ne_eq, Bool.and_eq_true, Bool.or_eq_true, Bool.not_eq_true', decide_eq_true_eq, Bool.false_eq_true, Bool.true_eq_false, Decidable.not_not, not_true_eq_false, not_false_eq_true, false_and, true_and] at hp))
          | refine s_block ?_ | refine c_block ?_ | refine c_skip ?_ | refine s_ret ?_ | refine c_ret ?_ | refine c_exit ?_ | refine s_exit ?_ | refine leave_r ?_ | refine next_r ?_ | refine leave_n ?_ | refine next_n ?_ | refine next_e ?_ | refine leave_eq ?_ | refine leave_ne (by decide) ?_ | refine hleave .ret _ (by simp) ?_ | refine hleave (.exit _) _ (by simp) ?_ | refine c_seq ?_
        all_goals (simp [EndA]; done)
      · have hbig' : ¬ 65536 < G.length := by omega
        have hre : lexP G = (rl l, 0, 0) := by
          rw [← hG, hLl, ← hL]
          refine relex htk ?_
          rw [hL, ← hLl, hG]
          omega
        repeat' first
          | refine s_seq ?_ | refine s_skip ?_
          | ((first | refine s_reg fun K hK => ?_ | refine s_regD fun K hK => ?_ | refine c_reg fun K hK => ?_ | refine c_regD fun K hK => ?_); simp (maxSteps := 4000000) +contextual [S11, S10, sp17, sp10, encF, hst, hjo, hG, hat, hpl, hbig, hbig', hre, hrl, hp]; (try (refine finD rfl ?_; simp)); refine hK _ ?_; clear hK K)
          | ((first | refine c_cond rfl (fun h => ?_) (fun h => ?_) | refine s_cond rfl (fun h => ?_) (fun h => ?_)) <;> (replace hp := And.intro h hp; clear h; try simp only [Bool.eq_false_iff, ne_eq, Bool.and_eq_true, Bool.or_eq_true, Bool.not_eq_true', decide_eq_true_eq, Bool.false_eq_true, Bool.true_eq_false, Decidable.not_not, not_true_eq_false, not_false_eq_true, false_and, true_and] at hp))
          | refine s_block ?_ | refine c_block ?_ | refine c_skip ?_ | refine s_ret ?_ | refine c_ret ?_ | refine c_exit ?_ | refine s_exit ?_ | refine leave_r ?_ | refine next_r ?_ | refine leave_n ?_ | refine next_n ?_ | refine next_e ?_ | refine leave_eq ?_ | refine leave_ne (by decide) ?_ | refine hleave .ret _ (by simp) ?_ | refine hleave (.exit _) _ (by simp) ?_ | refine c_seq ?_
        refine c_loopI (fun (j : Nat) => (⟨[(3, .slice 3 (l.map encT)), (8, .slice 1 (R.map nV)), (9, .slice 3 ((rl l).map encT)), (11, nV j)], []⟩ : St)) (fun j => j ≤ l.length) (fun j => l.length - j) 0 (by simp) (by simp) (fun j K' hj hnext hleave => ?_)
        have hjl : j < l.length → j < l.length := fun h => h
        have hjr : j < l.length → j < (rl l).length := fun h => by omega
        have hjR : j < l.length → j < R.length := fun h => by omega
        have hn1 : j < l.length → nth (rl l) j = ⟨(nth l j).kind, (nth l j).text, (sp L j).length⟩ := fun h => by rw [rl_nth h, hL]
        have hn2 : j < l.length → nth R j = (sp L j).length := fun h => by rw [← hR]; exact psOf_nth (by omega)
        have hw2 : IntKind.wrap .i64 ((j : Int) + 1) = ((j + 1 : Nat) : Int) := wrapN (by omega) (by omega)
        repeat' first
          | refine s_seq ?_ | refine s_skip ?_
          | ((first | refine s_reg fun K hK => ?_ | refine s_regD fun K hK => ?_ | refine c_reg fun K hK => ?_ | refine c_regD fun K hK => ?_); simp (maxSteps := 4000000) +contextual [S11, S10, encT, hrl, hpl, hjl, hjr, hjR, hn1, hn2, hw2, hp]; (try (refine finD rfl ?_; simp)); refine hK _ ?_; clear hK K)
          | ((first | refine c_cond rfl (fun h => ?_) (fun h => ?_) | refine s_cond rfl (fun h => ?_) (fun h => ?_)) <;> (replace hp := And.intro h hp; clear h; try simp only [Bool.eq_false_iff, ne_eq, Bool.and_eq_true, Bool.or_eq_true, Bool.not_eq_true', decide_eq_true_eq, Bool.false_eq_true, Bool.true_eq_false, Decidable.not_not, not_true_eq_false, not_false_eq_true, false_and, true_and] at hp))
          | refine s_block ?_ | refine c_block ?_ | refine c_skip ?_ | refine s_ret ?_ | refine c_ret ?_ | refine c_exit ?_ | refine s_exit ?_ | refine leave_r ?_ | refine next_r ?_ | refine leave_n ?_ | refine next_n ?_ | refine next_e ?_ | refine leave_eq ?_ | refine leave_ne (by decide) ?_ | refine hleave .ret _ (by simp) ?_ | refine hleave (.exit _) _ (by simp) ?_ | refine c_seq ?_
        · refine hnext _ (j + 1) ?_ (by omega) (by omega)
          simp
        · simp [EndA]
  · refine k8 (viaS sok11 ?_)
    have hp : True := trivial
    have hc' : ¬ (c : Int) = 0 := by omega
    have hl0 : l = [] := lexP_bad e1 hc
    subst hl0
    repeat' first
      | refine s_seq ?_ | refine s_skip ?_
      | ((first | refine s_reg fun K hK => ?_ | refine s_regD fun K hK => ?_ | refine c_reg fun K hK => ?_ | refine c_regD fun K hK => ?_); simp (maxSteps := 4000000) +contextual [S11, S10, sp9, sp10, encF, e1, hc, hc', hp]; (try (refine finD rfl ?_; simp)); refine hK _ ?_; clear hK K)
      | ((first | refine c_cond rfl (fun h => ?_) (fun h => ?_) | refine s_cond rfl (fun h => ?_) (fun h => ?_)) <;> (replace hp := And.intro h hp; clear h; try simp only [Bool.eq_false_iff, ne_eq, Bool.and_eq_true, Bool.or_eq_true, Bool.not_eq_true', decide_eq_true_eq, Bool.false_eq_true, Bool.true_eq_false, Decidable.not_not, not_true_eq_false, not_false_eq_true, false_and, true_and] at hp))
      | refine s_block ?_ | refine c_block ?_ | refine c_skip ?_ | refine s_ret ?_ | refine c_ret ?_ | refine c_exit ?_ | refine s_exit ?_ | refine leave_r ?_ | refine next_r ?_ | refine leave_n ?_ | refine next_n ?_ | refine next_e ?_ | refine leave_eq ?_ | refine leave_ne (by decide) ?_ | refine hleave .ret _ (by simp) ?_ | refine hleave (.exit _) _ (by simp) ?_ | refine c_seq ?_
    all_goals (simp [EndA]; done)
end Go.Proofs.Ytblmmaecklgbhaa
