/- A part of the proof of a law of this seat: no condition. -/
import Derived.Test.YtblmmaecklgbhaaJ0
import Derived.Below
set_option linter.unusedSimpArgs false
set_option linter.unusedVariables false
namespace Go.Proofs.Ytblmmaecklgbhaa
open Go.RowKit Go.Shelf
theorem info3 : (Try.prog.info? 3).map (fun i => (i.zero, i.size, i.bytes)) = some (some (.int .i64 0), 1, 8) := by kernel_rfl
/-- The first texts joined; ahead of one more; where each begins. -/
def jn (l : List (List UInt8)) : Nat → List UInt8
  | 0 => []
  | j + 1 => (bif j == 0 then [] else jn l j ++ [32]) ++ l.getD j []
def sp (l : List (List UInt8)) (j : Nat) : List UInt8 := bif j == 0 then [] else jn l j ++ [32]
def ats (l : List (List UInt8)) (j : Nat) : List Value := (List.range j).map fun i => .int .i64 ((sp l i).length : Int)
theorem jn_succ (l : List (List UInt8)) (j : Nat) : jn l (j + 1) = sp l j ++ l.getD j [] := rfl
theorem ats_succ (l : List (List UInt8)) (j : Nat) : ats l (j + 1) = ats l j ++ [.int .i64 ((sp l j).length : Int)] := by simp [ats, List.range_succ]
theorem row_kept {w w' : World} {B b : Nat} {v : Value} {n : Nat} {xs : List Value} {cs : Array Value} (h : w.ownsRow B 3 1 v n xs) (ho : Lib.OthersKept 5 (some b) w w') (hb : w.heap[b]? = some (.cells cs 55 (0, 0))) : w'.ownsRow B 3 1 v n xs := by
  refine ⟨h.1, ?_⟩
  rcases h.2 with h | ⟨g, cap, cur, h1, h2, h3, h4⟩
  · exact .inl h
  · refine .inr ⟨g, cap, cur, h1, h2, ho g _ h3 ?_ (by intro c fz e; simp at e), h4⟩
    rintro e
    injection e with e
    subst e
    rw [h3] at hb
    simp at hb
theorem bld_cells {w : World} {B b : Nat} {bs : List Value} (h : Lib.IsBuilderF 55 5 B b bs w) : ∃ cs, w.heap[b]? = some (.cells cs 55 (0, 0)) := by
  rcases h with ⟨_, v, h, _⟩ | ⟨_, v, h, _⟩ <;> exact ⟨_, h⟩
theorem bld_kept {w w' : World} {B b : Nat} {bs : List Value} {v : Value} {n : Nat} {xs : List Value} (h : Lib.IsBuilderF 55 5 B b bs w) (ho : w.ownsRow B 3 1 v n xs) (hg : w.grownBy w' v.ownBlock) : Lib.IsBuilderF 55 5 B b bs w' := by
  have key : ∀ (k : Nat) (cs : Array Value) (t : TypeId) (fz : Nat × Nat), t ≠ 3 → w.heap[k]? = some (Obj.cells cs t fz) → w'.heap[k]? = some (Obj.cells cs t fz) := by
    intro k cs t fz ht hk
    rw [hg.block k (Array.getElem?_eq_some_iff.1 hk).1 ?_, hk]
    intro e
    rcases ho.2 with ⟨h1, _⟩ | ⟨g, cap, cur, h1, _, h3, _⟩
    · rw [h1] at e; simp [Value.ownBlock] at e
    · rw [h1] at e
      simp [Value.ownBlock] at e
      subst e
      rw [hk] at h3
      simp at h3
      exact ht h3.2.1
  have one : ∀ p, Lib.BuilderAtF 55 5 B b p bs w → Lib.BuilderAtF 55 5 B b p bs w' := by
    rintro p ⟨h1, u, h2, ⟨h3, h4⟩, h5⟩
    refine ⟨h1, u, key _ _ _ _ (by decide) h2, ⟨h3, ?_⟩, h5⟩
    rcases h4 with h4 | ⟨g, cap, cur, fz, a1, a2, a3, a4⟩
    · exact .inl h4
    · exact .inr ⟨g, cap, cur, fz, a1, a2, key _ _ _ _ (by decide) a3, a4⟩
  rcases h with h | h
  · exact .inl (one _ h)
  · exact .inr (one _ h)
theorem cell_one_new (w : World) (x : Value) (e : TypeId) : ∀ (j : Nat) (u : Value), [x][j]? = some u → (w.alloc (.cells #[x] e)).cell? ((⟨w.heap.size, 0, none⟩ : Addr).add j) = some u := by
  intro j u h
  cases j with
  | succ j => cases h
  | zero =>
    cases h
    rw [Addr.add_lit]
    have := heap_alloc_new w (.cells #[x] e)
    simp only [World.cell?, this]
    rfl
end Go.Proofs.Ytblmmaecklgbhaa
