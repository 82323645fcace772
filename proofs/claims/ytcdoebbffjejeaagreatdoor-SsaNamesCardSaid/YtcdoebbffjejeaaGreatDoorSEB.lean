/- A part of the proof of a law of this seat: no condition. -/
import Derived.Test.YtcdoebbffjejeaaGreatDoorRows
import Derived.Test.YtcdoebbffjejeaaGreatDoorSsaLib
import Derived.WalkKit
import Derived.ProofKit
import Derived.OpenShut
import Derived.ShutString
import Derived.ChangeOld
import Derived.Below
import Derived.SizedLaws
import Derived.HandedShaped
import Derived.LaidMore
import Derived.Lay
import Derived.Lib.LaidTab
import Derived.Stop.LaidErr
set_option linter.unusedVariables false
set_option linter.unusedSimpArgs false
namespace Go.Proofs.YtcdoebbffjejeaaGreatDoor
open Go.Ax
open Go.ChangeShapes Go.WideShapes Go.ChangeAt Go.RowKit
abbrev laid3 : List (String × DataW Unit) := [("math/bits.deBruijn32tab", Rows.laid_math_bits_deBruijn32tab), ("math/bits.deBruijn64tab", Rows.laid_math_bits_deBruijn64tab), ("internal/strconv.uint64pow10", Rows.laid_internal_strconv_uint64pow10)]
theorem laidOut : laidOutB Tryz.prog = true := by kernel_rfl
theorem own : ownKnob Tryz.prog.godebug = none := by kernel_rfl
set_option maxRecDepth 100000 in
theorem base_of_laid {W : World} (h : laidMetH Tryz.prog laid3 W) : ∃ K, W.heap[1]? = some (powObj K) := by
  rw [MakeChecks.laidMetH_plain _ _ _ (by kernel_rfl)] at h
  have h2 : laidMet Tryz.prog [("internal/strconv.uint64pow10", Lib.tabData .u64 Lib.pow10Tab)] W := laidMet.tail (laidMet.tail h)
  have hg : Tryz.prog.globalNamed "internal/strconv.uint64pow10" = some 1 := by kernel_rfl
  have hT := Lib.tabIs_of_head hg (t := 234) (by kernel_rfl) Tryz.underlying234 Tryz.underlying219 (by kernel_rfl) (by kernel_rfl) h2
  unfold Lib.TabIs World.var? at hT
  rw [hg, Option.bind_some] at hT
  cases hh : W.heap[1]? with
  | none => rw [hh] at hT; cases hT
  | some o =>
    rw [hh] at hT
    cases o with
    | cells c t fr =>
      simp only [Option.some.injEq] at hT
      exact ⟨(t, fr), by rw [hT]; rfl⟩
    | map es c => cases hT
    | _ => cases hT
theorem blk_ok {W : World} {K : TypeId × Nat × Nat} (h : W.heap[1]? = some (powObj K)) : ∀ b o, (bs K).blk b = some o → W.heap[b]? = some o := fun b o ho => by
  unfold bs at ho
  simp only at ho
  split at ho
  · rename_i e; subst e; rw [h, ho]
  · cases ho
end Go.Proofs.YtcdoebbffjejeaaGreatDoor
