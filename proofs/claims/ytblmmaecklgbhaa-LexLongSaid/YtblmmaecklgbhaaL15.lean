/- A part of the proof of a law of this seat: no condition. -/
import Derived.Test.YtblmmaecklgbhaaL10
set_option linter.unusedSimpArgs false
set_option linter.unusedVariables false
set_option maxRecDepth 20000
namespace Go.Proofs.Ytblmmaecklgbhaa
open Go.Ax
theorem byteAt_rep {c : UInt8} {n i : Nat} (h : i < n) : byteAt (List.replicate n c) i = c := by simp [byteAt, h]
theorem runN_rep {p : UInt8 → Bool} {c : UInt8} {n i : Nat} (hc : p c = true) (h : i ≤ n) : runN p (List.replicate n c) i = n := by
  unfold runN
  rw [List.drop_replicate, List.takeWhile_replicate, if_pos hc]
  simp; omega
theorem hasPre_rep {c : UInt8} {n : Nat} (hc : c ≠ 47) : hasPre (List.replicate n c) [47, 47] = false := by
  unfold hasPre
  match n with
  | 0 => rfl
  | 1 => rfl
  | n + 2 => simp [List.replicate_succ, hc]
theorem lexA_end {s : List UInt8} {i : Nat} {acc} (h : s.length ≤ i) : lexA s i acc = (acc, 0, 0) := by
  rw [lexA.eq_1, dif_neg (by omega)]
theorem lexA_sp {n : Nat} : ∀ k i, n - i ≤ k → lexA (List.replicate n 32) i [] = ([], 0, 0) := by
  intro k
  induction k with
  | zero => intro i h; exact lexA_end (by simp; omega)
  | succ k ih =>
    intro i h
    rw [lexA.eq_1]
    split
    · rename_i h1
      simp at h1
      rw [byteAt_rep h1, if_pos (by decide)]
      exact ih _ (by omega)
    · rfl
def longC (k : Nat) : UInt8 := byteAt [97, 49, 32] k
def longM (k : Nat) : Nat := if k = 0 then 40 else if k = 1 then 300 else 65536
theorem long_lex {k n : Nat} (hk : k < 3) (hn : 1 ≤ n) : (lexP (List.replicate n (longC k))).2.1 = 0 ↔ n ≤ longM k := by
  unfold lexP
  split
  · rename_i h
    simp at h
    unfold longM
    simp
    split
    · omega
    · split <;> omega
  · rename_i h
    simp at h
    match k, hk with
    | 0, _ =>
      have e : longC 0 = 97 := rfl
      rw [e, lexA.eq_1, dif_pos (by simp; omega), byteAt_rep (by omega), if_neg (by decide), List.drop_zero, hasPre_rep (by decide), if_neg (by decide)]
      have hN : nextM (List.replicate n 97) 0 = if (40 : Int) < n then (⟨1, List.replicate n 97, 0⟩, 2, 0) else (⟨1, List.replicate n 97, 0⟩, 0, 0) := by
        unfold nextM
        simp only [byteAt_rep (show 0 < n by omega)]
        rw [if_pos (by decide), runN_rep (by decide) (by omega)]
        simp [sub]
      rw [hN]
      by_cases h4 : (40 : Int) < n
      · rw [if_pos h4]; simp [longM]; omega
      · rw [if_neg h4, if_pos rfl, lexA_end (by simp; omega)]; simp [longM]; omega
    | 1, _ =>
      have e : longC 1 = 49 := rfl
      rw [e, lexA.eq_1, dif_pos (by simp; omega), byteAt_rep (by omega), if_neg (by decide), List.drop_zero, hasPre_rep (by decide), if_neg (by decide)]
      have hN : nextM (List.replicate n 49) 0 = if (300 : Int) < n then (⟨2, List.replicate n 49, 0⟩, 2, 0) else (⟨2, List.replicate n 49, 0⟩, 0, 0) := by
        unfold nextM
        simp only [byteAt_rep (show 0 < n by omega)]
        rw [if_neg (by decide), if_pos (by decide), runN_rep (by decide) (by omega)]
        simp [sub]
      rw [hN]
      by_cases h4 : (300 : Int) < n
      · rw [if_pos h4]; simp [longM]; omega
      · rw [if_neg h4, if_pos rfl, lexA_end (by simp; omega)]; simp [longM]; omega
    | 2, _ =>
      have e : longC 2 = 32 := rfl
      rw [e, lexA_sp n 0 (by omega)]
      simp [longM]; omega
def longV (c : UInt8) (n i : Nat) : List V := List.replicate i (bV c) ++ List.replicate (n - i) (.int .u8 0)
theorem longV_len {c n i} (h : i ≤ n) : (longV c n i).length = n := by simp [longV]; omega
theorem longV_set {c n i} (h : i < n) : (longV c n i).set i (bV c) = longV c n (i + 1) := by
  unfold longV
  obtain ⟨k, hk⟩ : ∃ k, n - i = k + 1 := ⟨n - i - 1, by omega⟩
  rw [hk, show n - (i + 1) = k by omega, List.set_append_right _ _ (by simp)]
  simp only [List.length_replicate, Nat.sub_self, List.replicate_succ, List.set_cons_zero]
  rw [← List.replicate_succ, List.replicate_succ', List.append_assoc]
  rfl
theorem longV_end {c n} : longV c n n = List.replicate n (bV c) := by simp [longV]
theorem bytesOf_rep (c : UInt8) : ∀ n, bytesOf (List.replicate n (bV c)) = some (List.replicate n c)
  | 0 => rfl
  | n + 1 => by rw [List.replicate_succ, bytesOf, bytesOf_rep c n]; simp [List.replicate_succ]
theorem flat1 (n : Nat) (v : V) : (List.replicate n [v]).flatten = List.replicate n v := by
  induction n with
  | zero => rfl
  | succ n ih => simp [List.replicate_succ, ih]
theorem law_long {m : Int} (kind n : Int) : Ok (base m) 6 [.int .i64 kind, .int .i64 n] [] (.bool true) [] [] := by
  by_cases hn : n < 1 ∨ 70000 < n
  · refine k6 (viaS sok10 ?_)
    have hp : True := trivial
    have hnn : 1 ≤ n → 70000 < n := by omega
    repeat' first
      | refine s_seq ?_
      | refine s_skip ?_
      | (refine s_reg fun K hK => ?_; simp +contextual [S10, sp9, hnn, hp]; refine hK _ ?_; clear hK K)
      | (refine s_regD fun K hK => ?_; simp +contextual [S10, sp9, hnn, hp]; refine finD rfl ?_; simp; refine hK _ ?_; clear hK K)
      | (refine c_reg fun K hK => ?_; simp +contextual [S10, sp9, hnn, hp]; refine hK _ ?_; clear hK K)
      | (refine c_regD fun K hK => ?_; simp +contextual [S10, sp9, hnn, hp]; refine finD rfl ?_; simp; refine hK _ ?_; clear hK K)
      | (refine c_cond rfl (fun h => ?_) (fun h => ?_) <;> (replace hp := And.intro h hp; clear h; try simp only [Bool.eq_false_iff, ne_eq, Bool.and_eq_true, Bool.or_eq_true, Bool.not_eq_true', decide_eq_true_eq, Bool.false_eq_true, Bool.true_eq_false, Decidable.not_not, not_true_eq_false, not_false_eq_true, false_and, true_and] at hp))
      | (refine s_cond rfl (fun h => ?_) (fun h => ?_) <;> (replace hp := And.intro h hp; clear h; try simp only [Bool.eq_false_iff, ne_eq, Bool.and_eq_true, Bool.or_eq_true, Bool.not_eq_true', decide_eq_true_eq, Bool.false_eq_true, Bool.true_eq_false, Decidable.not_not, not_true_eq_false, not_false_eq_true, false_and, true_and] at hp))
      | refine s_block ?_
      | refine c_block ?_
      | refine c_skip ?_
      | refine s_ret ?_
      | refine c_ret ?_
      | refine c_exit ?_
      | refine s_exit ?_
      | refine leave_r ?_
      | refine next_r ?_
      | refine leave_n ?_
      | refine next_n ?_
      | refine next_e ?_
      | refine leave_eq ?_
      | refine leave_ne (by decide) ?_
      | refine hleave .ret _ (by simp) ?_
      | refine hleave (.exit _) _ (by simp) ?_
      | refine c_seq ?_
    all_goals first | (simp [EndA]; done) | (exfalso; have := hp.1; omega)
  · obtain ⟨N, rfl⟩ : ∃ N : Nat, n = N := ⟨n.toNat, by omega⟩
    have h1 : 1 ≤ N := by omega
    have h2 : N ≤ 70000 := by omega
    obtain ⟨k, hk, hk3⟩ : ∃ k : Nat, min (max kind 0) 2 = k ∧ k < 3 := ⟨(min (max kind 0) 2).toNat, by omega, by omega⟩
    refine k6 (viaS sok10 ?_)
    have hp : True := trivial
    have hb : (N : Int) ≤ 140737488355328 := by omega
    have hb2 : N ≤ 140737488355328 := by omega
    repeat' first
      | refine s_seq ?_
      | refine s_skip ?_
      | (refine s_reg fun K hK => ?_; simp +contextual [S10, sp9, sp10, sp11, sp12, encF, same_all, hk, hk3, h1, h2, hb, hb2, flat1, hp]; refine hK _ ?_; clear hK K)
      | (refine s_regD fun K hK => ?_; simp +contextual [S10, sp9, sp10, sp11, sp12, encF, same_all, hk, hk3, h1, h2, hb, hb2, flat1, hp]; refine finD rfl ?_; simp; refine hK _ ?_; clear hK K)
      | (refine c_reg fun K hK => ?_; simp +contextual [S10, sp9, sp10, sp11, sp12, encF, same_all, hk, hk3, h1, h2, hb, hb2, flat1, hp]; refine hK _ ?_; clear hK K)
      | (refine c_regD fun K hK => ?_; simp +contextual [S10, sp9, sp10, sp11, sp12, encF, same_all, hk, hk3, h1, h2, hb, hb2, flat1, hp]; refine finD rfl ?_; simp; refine hK _ ?_; clear hK K)
      | (refine c_cond rfl (fun h => ?_) (fun h => ?_) <;> (replace hp := And.intro h hp; clear h; try simp only [Bool.eq_false_iff, ne_eq, Bool.and_eq_true, Bool.or_eq_true, Bool.not_eq_true', decide_eq_true_eq, Bool.false_eq_true, Bool.true_eq_false, Decidable.not_not, not_true_eq_false, not_false_eq_true, false_and, true_and] at hp))
      | (refine s_cond rfl (fun h => ?_) (fun h => ?_) <;> (replace hp := And.intro h hp; clear h; try simp only [Bool.eq_false_iff, ne_eq, Bool.and_eq_true, Bool.or_eq_true, Bool.not_eq_true', decide_eq_true_eq, Bool.false_eq_true, Bool.true_eq_false, Decidable.not_not, not_true_eq_false, not_false_eq_true, false_and, true_and] at hp))
      | refine s_block ?_
      | refine c_block ?_
      | refine c_skip ?_
      | refine s_ret ?_
      | refine c_ret ?_
      | refine c_exit ?_
      | refine s_exit ?_
      | refine leave_r ?_
      | refine next_r ?_
      | refine leave_n ?_
      | refine next_n ?_
      | refine next_e ?_
      | refine leave_eq ?_
      | refine leave_ne (by decide) ?_
      | refine hleave .ret _ (by simp) ?_
      | refine hleave (.exit _) _ (by simp) ?_
      | refine c_seq ?_
    · exfalso; have := hp.1; omega
    have e0 : List.replicate N (V.int .u8 0) = longV (longC k) N 0 := by simp [longV]
    rw [e0]
    refine c_loopI (fun (j : Nat) => (⟨[(0, .int .i64 kind), (1, nV N), (5, .sl 1 (.loc 22) N), (6, nV j)], [(.loc 22, .cells true (longV (longC k) N j))]⟩ : St)) (fun j => j ≤ N) (fun j => N - j) 0 (by simp) (by simp) (fun j K' hj hnext hleave => ?_)
    have hlen := longV_len (c := longC k) hj
    have hbc : byteAt [97, 49, 32] k = longC k := rfl
    have hro : rowOk [bV (longC k)] = true := rfl
    repeat' first
      | refine s_seq ?_
      | refine s_skip ?_
      | (refine s_reg fun K hK => ?_; simp +contextual [hk, hk3, hj, hlen, hbc, hp]; refine hK _ ?_; clear hK K)
      | (refine s_regD fun K hK => ?_; simp +contextual [hk, hk3, hj, hlen, hbc, hp]; refine finD rfl ?_; simp; refine hK _ ?_; clear hK K)
      | (refine c_reg fun K hK => ?_; simp +contextual [hk, hk3, hj, hlen, hbc, hp]; refine hK _ ?_; clear hK K)
      | (refine c_regD fun K hK => ?_; simp +contextual [hk, hk3, hj, hlen, hbc, hp]; refine finD rfl ?_; simp; refine hK _ ?_; clear hK K)
      | (refine c_cond rfl (fun h => ?_) (fun h => ?_) <;> (replace hp := And.intro h hp; clear h; try simp only [Bool.eq_false_iff, ne_eq, Bool.and_eq_true, Bool.or_eq_true, Bool.not_eq_true', decide_eq_true_eq, Bool.false_eq_true, Bool.true_eq_false, Decidable.not_not, not_true_eq_false, not_false_eq_true, false_and, true_and] at hp))
      | (refine s_cond rfl (fun h => ?_) (fun h => ?_) <;> (replace hp := And.intro h hp; clear h; try simp only [Bool.eq_false_iff, ne_eq, Bool.and_eq_true, Bool.or_eq_true, Bool.not_eq_true', decide_eq_true_eq, Bool.false_eq_true, Bool.true_eq_false, Decidable.not_not, not_true_eq_false, not_false_eq_true, false_and, true_and] at hp))
      | refine s_block ?_
      | refine c_block ?_
      | refine c_skip ?_
      | refine s_ret ?_
      | refine c_ret ?_
      | refine c_exit ?_
      | refine s_exit ?_
      | refine leave_r ?_
      | refine next_r ?_
      | refine leave_n ?_
      | refine next_n ?_
      | refine next_e ?_
      | refine leave_eq ?_
      | refine leave_ne (by decide) ?_
      | refine hleave .ret _ (by simp) ?_
      | refine hleave (.exit _) _ (by simp) ?_
      | refine c_seq ?_
    · have hjN : j < N := by simpa using hp.1
      have hset := longV_set (c := longC k) hjN
      have hj1 : j + 1 ≤ N := hjN
      have hw : IntKind.wrap .i64 ((j : Int) + 1) = ((j + 1 : Nat) : Int) := wrapN (by omega) (by omega)
      repeat' first
        | refine s_seq ?_
        | refine s_skip ?_
        | (refine s_reg fun K hK => ?_; simp +contextual [hk, hk3, hj, hlen, hbc, hjN, hro, hset, hj1, hp]; refine hK _ ?_; clear hK K)
        | (refine s_regD fun K hK => ?_; simp +contextual [hk, hk3, hj, hlen, hbc, hjN, hro, hset, hj1, hp]; refine finD rfl ?_; simp; refine hK _ ?_; clear hK K)
        | (refine c_reg fun K hK => ?_; simp +contextual [hk, hk3, hj, hlen, hbc, hjN, hro, hset, hj1, hp]; refine hK _ ?_; clear hK K)
        | (refine c_regD fun K hK => ?_; simp +contextual [hk, hk3, hj, hlen, hbc, hjN, hro, hset, hj1, hp]; refine finD rfl ?_; simp; refine hK _ ?_; clear hK K)
        | (refine c_cond rfl (fun h => ?_) (fun h => ?_) <;> (replace hp := And.intro h hp; clear h; try simp only [Bool.eq_false_iff, ne_eq, Bool.and_eq_true, Bool.or_eq_true, Bool.not_eq_true', decide_eq_true_eq, Bool.false_eq_true, Bool.true_eq_false, Decidable.not_not, not_true_eq_false, not_false_eq_true, false_and, true_and] at hp))
        | (refine s_cond rfl (fun h => ?_) (fun h => ?_) <;> (replace hp := And.intro h hp; clear h; try simp only [Bool.eq_false_iff, ne_eq, Bool.and_eq_true, Bool.or_eq_true, Bool.not_eq_true', decide_eq_true_eq, Bool.false_eq_true, Bool.true_eq_false, Decidable.not_not, not_true_eq_false, not_false_eq_true, false_and, true_and] at hp))
        | refine s_block ?_
        | refine c_block ?_
        | refine c_skip ?_
        | refine s_ret ?_
        | refine c_ret ?_
        | refine c_exit ?_
        | refine s_exit ?_
        | refine leave_r ?_
        | refine next_r ?_
        | refine leave_n ?_
        | refine next_n ?_
        | refine next_e ?_
        | refine leave_eq ?_
        | refine leave_ne (by decide) ?_
        | refine hleave .ret _ (by simp) ?_
        | refine hleave (.exit _) _ (by simp) ?_
        | refine c_seq ?_
      refine hnext _ (j + 1) (by simp [hw]) hj1 (by omega)
    · have hjN : j = N := by have := hp.1; simp at this; omega
      subst hjN
      rw [longV_end]
      have hbo := bytesOf_rep (longC k) j
      have hl := lexP_len (List.replicate j (longC k))
      have hl2 : (refP (List.replicate j (longC k))).1.length < 100000000 := by rw [← same_all]; omega
      have hL := long_lex hk3 h1
      rw [same_all] at hL
      clear hbc hro hlen hnext hleave e0
      generalize longC k = c at *
      repeat' first
        | refine s_seq ?_
        | refine s_skip ?_
        | (refine s_reg fun K hK => ?_; simp +contextual [hk, hk3, hbo, hl2, S10, sp9, sp10, sp11, sp12, encF, same_all, hp]; refine hK _ ?_; clear hK K)
        | (refine s_regD fun K hK => ?_; simp +contextual [hk, hk3, hbo, hl2, S10, sp9, sp10, sp11, sp12, encF, same_all, hp]; refine finD rfl ?_; simp; refine hK _ ?_; clear hK K)
        | (refine c_reg fun K hK => ?_; simp +contextual [hk, hk3, hbo, hl2, S10, sp9, sp10, sp11, sp12, encF, same_all, hp]; refine hK _ ?_; clear hK K)
        | (refine c_regD fun K hK => ?_; simp +contextual [hk, hk3, hbo, hl2, S10, sp9, sp10, sp11, sp12, encF, same_all, hp]; refine finD rfl ?_; simp; refine hK _ ?_; clear hK K)
        | (refine c_cond rfl (fun h => ?_) (fun h => ?_) <;> (replace hp := And.intro h hp; clear h; try simp only [Bool.eq_false_iff, ne_eq, Bool.and_eq_true, Bool.or_eq_true, Bool.not_eq_true', decide_eq_true_eq, Bool.false_eq_true, Bool.true_eq_false, Decidable.not_not, not_true_eq_false, not_false_eq_true, false_and, true_and] at hp))
        | (refine s_cond rfl (fun h => ?_) (fun h => ?_) <;> (replace hp := And.intro h hp; clear h; try simp only [Bool.eq_false_iff, ne_eq, Bool.and_eq_true, Bool.or_eq_true, Bool.not_eq_true', decide_eq_true_eq, Bool.false_eq_true, Bool.true_eq_false, Decidable.not_not, not_true_eq_false, not_false_eq_true, false_and, true_and] at hp))
        | refine s_block ?_
        | refine c_block ?_
        | refine c_skip ?_
        | refine s_ret ?_
        | refine c_ret ?_
        | refine c_exit ?_
        | refine s_exit ?_
        | refine leave_r ?_
        | refine next_r ?_
        | refine leave_n ?_
        | refine next_n ?_
        | refine next_e ?_
        | refine leave_eq ?_
        | refine leave_ne (by decide) ?_
        | refine hleave .ret _ (by simp) ?_
        | refine hleave (.exit _) _ (by simp) ?_
        | refine c_seq ?_
      all_goals have hq := hp.1
      all_goals simp [EndA]
      all_goals rw [hL]
      · subst hq; simp [longM]; omega
      · have : k = 1 := by omega
        subst this; simp [longM]; omega
      · have : k = 2 := by have := hp.2.1; omega
        subst this; simp [longM]; omega
end Go.Proofs.Ytblmmaecklgbhaa
