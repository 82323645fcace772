/- A part of the proof of a law of this seat: no condition. -/
import Derived.Shelf.Lays
import Derived.Shelf.Strings.Search1
import Derived.Shelf.Strings.Search2
import Derived.Shelf.Strings.Search3
import Derived.Shelf.LaysM
import Derived.Shelf.Strings.Shaped
import Derived.Test.YtblmmaecklgbhaaT1
import Derived.Test.YtblmmaecklgbhaaAcS
set_option linter.unusedSimpArgs false
set_option linter.unusedVariables false
namespace Go.Proofs
open Go.Shelf
def Try.lays144_ren : Go.Shelf.Ren := ⟨fun | 144 => 37 | 143 => 40 | 219 => 43 | 217 => 41 | 225 => 45 | 224 => 46 | 267 => 47 | 266 => 44 | 314 => 48 | n => n, fun | 9 => 9 | 4 => 4 | 3 => 3 | 5 => 5 | 46 => 69 | 146 => 71 | 51 => 70 | n => n, fun | 1 => 0 | n => n⟩
theorem Try.lays144 : Go.Proofs.LaysM.n144 Try.prog Try.lays144_ren where
  mixed := by kernel_rfl
  f143 := Try.func40.trans (congrArg some (by kernel_rfl))
  f144 := Try.func37.trans (congrArg some (by kernel_rfl))
  f217 := Try.func41.trans (congrArg some (by kernel_rfl))
  f219 := Try.func43.trans (congrArg some (by kernel_rfl))
  f224 := Try.func46.trans (congrArg some (by kernel_rfl))
  f225 := Try.func45.trans (congrArg some (by kernel_rfl))
  f266 := Try.func44.trans (congrArg some (by kernel_rfl))
  f267 := Try.func47.trans (congrArg some (by kernel_rfl))
  f314 := Try.func48.trans (congrArg some (by kernel_rfl))
  t3 := Try.underlying3
  a3 := Try.isAgg3
  z3 := Try.sizeOf3
  v3 := Try.zeroValue3
  t4 := Try.underlying4
  a4 := Try.isAgg4
  z4 := Try.sizeOf4
  v4 := Try.zeroValue4
  t5 := Try.underlying5
  a5 := Try.isAgg5
  z5 := Try.sizeOf5
  v5 := Try.zeroValue5
  t9 := Try.underlying9
  a9 := Try.isAgg9
  z9 := Try.sizeOf9
  v9 := Try.zeroValue9
  t46 := Try.underlying69
  a46 := Try.isAgg69
  z46 := Try.sizeOf69
  v46 := Try.zeroValue69
  t51 := Try.underlying70
  a51 := Try.isAgg70
  z51 := Try.sizeOf70
  v51 := Try.zeroValue70
  t146 := Try.underlying71
  a146 := Try.isAgg71
  z146 := Try.sizeOf71
  v146 := Try.zeroValue71
  g1 := by kernel_rfl
  i3 := by kernel_rfl
  i4 := by kernel_rfl
  i5 := by kernel_rfl
  i9 := by kernel_rfl
  i46 := by kernel_rfl
  i51 := by kernel_rfl
  i146 := by kernel_rfl
  m1 := by kernel_rfl
  s1_3 := fun w h => Go.Proofs.cell_of_shapedOpen_int (zero := #[.int .i64 0]) (t := 3) h (of_decide_eq_true (by kernel_rfl)) (by kernel_rfl) rfl (by kernel_rfl) (by kernel_rfl) Try.underlying3
def Try.lays217_ren : Go.Shelf.Ren := ⟨fun | 217 => 41 | 266 => 44 | n => n, fun | 9 => 9 | 5 => 5 | 3 => 3 | n => n, fun | n => n⟩
theorem Try.lays217 : Go.Proofs.Lays.n217 Try.prog Try.lays217_ren where
  mixed := by kernel_rfl
  f217 := Try.func41.trans (congrArg some (by kernel_rfl))
  f266 := Try.func44.trans (congrArg some (by kernel_rfl))
  t3 := Try.underlying3
  a3 := Try.isAgg3
  z3 := Try.sizeOf3
  v3 := Try.zeroValue3
  t5 := Try.underlying5
  a5 := Try.isAgg5
  z5 := Try.sizeOf5
  v5 := Try.zeroValue5
  t9 := Try.underlying9
  a9 := Try.isAgg9
  z9 := Try.sizeOf9
  v9 := Try.zeroValue9
namespace Ytblmmaecklgbhaa
open Go.Ax
/-- What the library's own variable holds. -/
def base (m : Int) : Heap := ⟨fun b o => if b = Try.lays144_ren.g 1 ∧ o = 0 then some (.int .i64 m) else none, fun _ => 0⟩
theorem base_cell {m : Int} {w : World} (h : ∀ b o v, base m b o = some v → w.cell? ⟨b, o, none⟩ = some v) : w.cell? ⟨Try.lays144_ren.g 1, 0, none⟩ = some (.int .i64 m) :=
  h _ _ _ (by simp [base])
theorem base_of {m : Int} {w : World} (h : w.cell? ⟨Try.lays144_ren.g 1, 0, none⟩ = some (.int .i64 m)) : ∀ b o v, base m b o = some v → w.cell? ⟨b, o, none⟩ = some v := by
  intro b o v hv
  simp only [base] at hv
  split at hv
  · rename_i e; rw [e.1, e.2, h, hv]
  · cases hv
def sp37 : Sp
  | [.str s, .str t], [] => if s.length < 4000000000 then some (.bool (Lib.contains s t), [], []) else none
  | _, _ => none
theorem fn37 {m : Int} : FnOk Try.prog (base m) 37 sp37 := by
  intro args objs r objs' news h
  unfold sp37 at h
  split at h
  · rename_i s t
    split at h
    · rename_i hs
      cases h
      refine callOk_lib (vs := [.string ⟨s.toArray⟩, .string ⟨t.toArray⟩]) (u := .bool (Lib.contains s t)) Try.call37 (fun H μ us hus => ?_) (fun H μ => .two _ _ (.one _ _ (.data _ _ (.bool _)))) rfl (fun w hw => ?_)
      · obtain ⟨x, y, rfl, hx, hy⟩ := repArgs2 hus
        rw [hx.str, hy.str]
      · refine (Any.strings_Contains { Try.lays144 with } ⟨s.toArray⟩ ⟨t.toArray⟩ m w (by simp only [ByteArray.size]; simp; omega) (base_cell hw)).mono ?_
        rintro e w' ⟨rfl, rfl⟩
        exact ⟨rfl, rfl, Io.refl _⟩
    · cases h
  · cases h
def sp41 : Sp
  | [.str s, .int .u8 c], [] => some (.int .i64 (Lib.indexByte s c.toNat.toUInt8), [], [])
  | _, _ => none
theorem fn41 {B : Heap} : FnOk Try.prog B 41 sp41 := by
  intro args objs r objs' news h
  unfold sp41 at h
  split at h
  · rename_i s c
    cases h
    refine callOk_lib (vs := [.string ⟨s.toArray⟩, .int .u8 c]) (u := .int .i64 (Lib.indexByte s c.toNat.toUInt8)) Try.call41 (fun H μ us hus => ?_) (fun H μ => .two _ _ (.one _ _ (.data _ _ (.int _ _)))) rfl (fun w hw => ?_)
    · obtain ⟨x, y, rfl, hx, hy⟩ := repArgs2 hus
      rw [hx.str, hy.int]
    · refine (Any.stringslite_IndexByte Try.lays217 ⟨s.toArray⟩ c w).mono ?_
      rintro e w' ⟨rfl, rfl⟩
      exact ⟨rfl, rfl, Io.refl _⟩
  · cases h
end Ytblmmaecklgbhaa
end Go.Proofs
