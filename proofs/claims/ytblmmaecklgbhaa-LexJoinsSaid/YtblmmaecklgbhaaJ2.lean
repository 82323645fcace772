/- A part of the proof of a law of this seat: no condition. -/
import Derived.Test.YtblmmaecklgbhaaJ1
set_option linter.unusedSimpArgs false
set_option linter.unusedVariables false
namespace Go.Proofs.Ytblmmaecklgbhaa
open Go.RowKit Go.Shelf
set_option maxHeartbeats 1600000 in
set_option maxRecDepth 1000000 in
theorem join_walk (l : List (List UInt8)) (xa : Option Addr) (xb xo xc : Nat) (w : World) (hxa : 0 < l.length → xa = some ⟨xb, xo, none⟩)
    (hy : ∀ j, j < l.length → w.cell? ⟨xb, xo + j, none⟩ = some (.string ⟨(l.getD j []).toArray⟩)) (hb : ∀ j, j ≤ l.length → (jn l j).length + 1 ≤ 140737488355328) (hn : l.length ≤ 1000000) :
    Calls Try.prog 17 #[.slice xa l.length xc] w fun e w' => ∃ v, e = .returned (.tuple #[.string ⟨(jn l l.length).toArray⟩, v]) ∧ Below w.heap.size w w' ∧ w'.ownsRow w.heap.size 3 1 v l.length (ats l l.length) := by
  obtain ⟨i0, hi, hz0, hz1, hz2⟩ := info_parts info3
  have h0 : Lib.IsBuilderF 55 5 w.heap.size w.heap.size (Lib.byteCells (jn l 0)) (w.alloc (.cells #[.pointer none, .slice none 0 0] 55)) := Lib.IsBuilderF.of (Lib.fresh_isBuilder 55 5 w)
  have b0 : Below w.heap.size w (w.alloc (.cells #[.pointer none, .slice none 0 0] 55)) := (Below.refl _ w).alloc (Nat.le_refl _) _
  go_enter Try.func17, Try.ntmps17
  go_wp2
  go_loopg [5, 10] l.length (fun k d c wr => ∃ j, k = l.length - j ∧ j ≤ l.length ∧ c = .int .i64 j ∧ Lib.IsBuilderF 55 5 w.heap.size w.heap.size (Lib.byteCells (jn l j)) wr ∧ Below w.heap.size w wr ∧ wr.ownsRow w.heap.size 3 1 d j (ats l j))
  case atStart => exact ⟨0, rfl, Nat.zero_le _, rfl, h0, b0, World.ownsRow_nil _ _ _ _⟩
  case round =>
    obtain ⟨j, hk, hj, rfl, hB, hbx, hown⟩ := hrel
    by_cases hlt : j < l.length
    · obtain rfl := hxa (by omega)
      have hxb : xb < w.heap.size := World.block_lt_of_cell? _ _ (hy j hlt)
      have hx : wr.cell? ⟨xb, xo + j, none⟩ = some (.string ⟨(l.getD j []).toArray⟩) := (hbx.cell hxb).trans (hy j hlt)
      have hlt' : (j : Int) < (l.length : Int) := by omega
      have hjb := hb j (by omega)
      have hjb1 := hb (j + 1) (by omega)
      obtain ⟨tx, htx⟩ : ∃ tx, l.getD j [] = tx := ⟨_, rfl⟩
      obtain ⟨p, hp⟩ : ∃ p, jn l j = p := ⟨_, rfl⟩
      obtain ⟨q, hq⟩ : ∃ q, sp l j = q := ⟨_, rfl⟩
      have hj1 : jn l (j + 1) = q ++ tx := by rw [jn_succ, hq, htx]
      have ha1 := ats_succ l j
      rw [hq] at ha1
      rw [hj1, List.length_append] at hjb1
      rw [htx] at hx
      rw [hp] at hB hjb
      rcases Nat.eq_zero_or_pos j with hj0 | hpos
      · have hneg : ¬ (0 : Int) < (j : Int) := by omega
        have hq0 : q = p := by rw [← hq, ← hp, hj0]; rfl
        clear hj0
        subst hq0
        obtain ⟨W1, hW1⟩ : ∃ W1, W1 = wr := ⟨_, rfl⟩
        subst hW1
        have hB1 := hB
        have hown1 := hown
        have hbx1 := hbx
        obtain ⟨cs1, hcs1⟩ := bld_cells hB1
        have cLen := Any.Builder_Len_f { Try.lays170 with } w.heap.size w.heap.size _ W1 hB1
        rw [Lib.byteCells_length] at cLen
        go_wp2_with (first
          | (go_at_call 32; refine cLen.mono ?_; rintro e W2 ⟨rfl, hw2⟩; rw [hw2])
          | (at_builtin; refine wpList_append_own _ rfl _ _ 40 rfl w.heap.size 3 i0 (.int .i64 0) 1 8 Try.underlying40 hi hz0 hz1 hz2 rfl (by decide) _ _ _ rfl (hown1.alloc _) ⟨W1.heap.size, 0, none⟩ 1 1 [.int .i64 (q.length : Int)] rfl rfl (cell_one_new _ _ _) (fun x hx => by simp at hx; subst hx; rfl) (by unfold maxLen; omega) (by omega) (by have := hbx1.size; simp; omega) ?_; intro v' w3 hown' hgrow3 hnil3))
        have hB3 : Lib.IsBuilderF 55 5 w.heap.size w.heap.size (Lib.byteCells q) w3 := bld_kept (hB1.alloc _) (hown1.alloc _) hgrow3
        have hsz1 : w.heap.size ≤ (W1.alloc (.cells #[.int .i64 (q.length : Int)] 3)).heap.size := (hbx1.alloc hbx1.size _).size
        have hbx3 : Below w.heap.size w w3 := (hbx1.alloc hbx1.size _).grown hgrow3 hsz1 (fun k hk => ((hown1.alloc (.cells #[.int .i64 (q.length : Int)] 3)).lt k hk).1)
        obtain ⟨cs3, hcs3⟩ := bld_cells hB3
        have htl : (⟨tx.toArray⟩ : ByteArray).size = tx.length := by simp [ByteArray.size]
        go_wp2_with (go_at_call 33; refine (Any.Builder_WriteString_k { Try.lays166 with } Try.builderX w.heap.size w.heap.size _ ⟨tx.toArray⟩ w3 hB3 (by rw [Lib.byteCells_length, htl]; omega) hbx3.size).mono ?_; rintro e W4 ⟨rfl, h4, b4, o4⟩)
        have hwr : IntKind.wrap .i64 ((j : Int) + 1) = ((j + 1 : Nat) : Int) := by
          rw [IntKind.wrap_i64]
          omega
        go_roundg (l.length - (j + 1))
        case measure => omega
        case rel =>
          refine ⟨j + 1, rfl, by omega, by simp, ?_, hbx3.trans b4, ?_⟩
          · rw [hj1, Lib.byteCells_append]
            rw [Lib.strCells_eq] at h4
            exact Or.inr h4
          · rw [ha1]
            exact row_kept hown' o4 hcs3

      · have hpos' : (0 : Int) < (j : Int) := by omega
        have hq1 : q = p ++ [32] := by
          rw [← hq, ← hp]
          cases j with
          | zero => omega
          | succ k => rfl
        obtain ⟨cs0, hcs0⟩ := bld_cells hB
        go_wp2_with (go_at_call 31; refine (Any.Builder_WriteByte_k { Try.lays167 with } Try.builderX w.heap.size w.heap.size _ 32 wr hB (by rw [Lib.byteCells_length]; omega) hbx.size).mono ?_; rintro e W1 ⟨rfl, h1, b1, o1⟩)
        have hB1 : Lib.IsBuilderF 55 5 w.heap.size w.heap.size (Lib.byteCells q) W1 := by
          rw [hq1, Lib.byteCells_append]
          exact Or.inr h1
        have hown1 := row_kept hown o1 hcs0
        have hbx1 := hbx.trans b1
        clear hq1
        obtain ⟨cs1, hcs1⟩ := bld_cells hB1
        have cLen := Any.Builder_Len_f { Try.lays170 with } w.heap.size w.heap.size _ W1 hB1
        rw [Lib.byteCells_length] at cLen
        go_wp2_with (first
          | (go_at_call 32; refine cLen.mono ?_; rintro e W2 ⟨rfl, hw2⟩; rw [hw2])
          | (at_builtin; refine wpList_append_own _ rfl _ _ 40 rfl w.heap.size 3 i0 (.int .i64 0) 1 8 Try.underlying40 hi hz0 hz1 hz2 rfl (by decide) _ _ _ rfl (hown1.alloc _) ⟨W1.heap.size, 0, none⟩ 1 1 [.int .i64 (q.length : Int)] rfl rfl (cell_one_new _ _ _) (fun x hx => by simp at hx; subst hx; rfl) (by unfold maxLen; omega) (by omega) (by have := hbx1.size; simp; omega) ?_; intro v' w3 hown' hgrow3 hnil3))
        have hB3 : Lib.IsBuilderF 55 5 w.heap.size w.heap.size (Lib.byteCells q) w3 := bld_kept (hB1.alloc _) (hown1.alloc _) hgrow3
        have hsz1 : w.heap.size ≤ (W1.alloc (.cells #[.int .i64 (q.length : Int)] 3)).heap.size := (hbx1.alloc hbx1.size _).size
        have hbx3 : Below w.heap.size w w3 := (hbx1.alloc hbx1.size _).grown hgrow3 hsz1 (fun k hk => ((hown1.alloc (.cells #[.int .i64 (q.length : Int)] 3)).lt k hk).1)
        obtain ⟨cs3, hcs3⟩ := bld_cells hB3
        have htl : (⟨tx.toArray⟩ : ByteArray).size = tx.length := by simp [ByteArray.size]
        go_wp2_with (go_at_call 33; refine (Any.Builder_WriteString_k { Try.lays166 with } Try.builderX w.heap.size w.heap.size _ ⟨tx.toArray⟩ w3 hB3 (by rw [Lib.byteCells_length, htl]; omega) hbx3.size).mono ?_; rintro e W4 ⟨rfl, h4, b4, o4⟩)
        have hwr : IntKind.wrap .i64 ((j : Int) + 1) = ((j + 1 : Nat) : Int) := by
          rw [IntKind.wrap_i64]
          omega
        go_roundg (l.length - (j + 1))
        case measure => omega
        case rel =>
          refine ⟨j + 1, rfl, by omega, by simp, ?_, hbx3.trans b4, ?_⟩
          · rw [hj1, Lib.byteCells_append]
            rw [Lib.strCells_eq] at h4
            exact Or.inr h4
          · rw [ha1]
            exact row_kept hown' o4 hcs3

    · obtain rfl : j = l.length := by omega
      have hlt' : ¬ ((l.length : Int) < (l.length : Int)) := by omega
      go_wp2_with (go_at_call 34; refine (Any.Builder_String_any_k { Try.lays169 with } Try.builderX w.heap.size w.heap.size _ wr hB hbx.size).mono ?_; rintro e W1 ⟨rfl, h1, b1, o1⟩)
      go_ret2
      obtain ⟨cs, hcs⟩ := bld_cells hB
      exact ⟨_, rfl, hbx.trans b1, row_kept hown o1 hcs⟩
end Go.Proofs.Ytblmmaecklgbhaa
