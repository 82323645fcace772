/- A part of the proof of a law of this seat: no condition. -/
import Derived.Test.YtjabgfnljbnmmaaDoorEA
import Derived.Test.YtjabgfnljbnmmaaDoorTB2
import Derived.LaidMore
import Derived.Lay
import Derived.Lib.LaidTab
import Derived.Stop.LaidErr
set_option linter.unusedVariables false
namespace Go.Proofs.YtjabgfnljbnmmaaDoor
open Go.Ax
open Go.ChangeShapes Go.WideShapes Go.ChangeAt Go.RowKit
abbrev laid3 : List (String × DataW Unit) := [("math/bits.deBruijn32tab", Rows.laid_math_bits_deBruijn32tab), ("math/bits.deBruijn64tab", Rows.laid_math_bits_deBruijn64tab), ("internal/strconv.uint64pow10", Rows.laid_internal_strconv_uint64pow10)]
theorem laidOut : laidOutB Tryd.prog = true := by kernel_rfl
theorem own : ownKnob Tryd.prog.godebug = none := by kernel_rfl
set_option maxRecDepth 100000 in
theorem base_of_laid {W : World} (h : laidMetH Tryd.prog laid3 W) : ∃ K, W.heap[0]? = some (powObj K) := by
 rw [MakeChecks.laidMetH_plain _ _ _ (by kernel_rfl)] at h
 have h2 : laidMet Tryd.prog [("internal/strconv.uint64pow10", Lib.tabData .u64 Lib.pow10Tab)] W := laidMet.tail (laidMet.tail h)
 have hg : Tryd.prog.globalNamed "internal/strconv.uint64pow10" = some 0 := by kernel_rfl
 have hT := Lib.tabIs_of_head hg (t := 132) (by kernel_rfl) Tryd.underlying132 Tryd.underlying114 (by kernel_rfl) (by kernel_rfl) h2
 unfold Lib.TabIs World.var? at hT
 rw [hg, Option.bind_some] at hT
 cases hh : W.heap[0]? with
 | none => rw [hh] at hT; cases hT
 | some o =>
  rw [hh] at hT
  cases o with
  | cells c t fr =>
   simp only [Option.some.injEq] at hT
   exact ⟨(t, fr), by rw [hT]; rfl⟩
  | map es c => cases hT
  | _ => cases hT
theorem base_ok {W : World} {K : TypeId × Nat × Nat} (h : W.heap[0]? = some (powObj K)) : ∀ b o, (bs K).blk b = some o → W.heap[b]? = some o := fun b o ho => by
 unfold bs at ho
 simp only at ho
 split at ho
 ·rename_i e; subst e; rw [h, ho]
 ·cases ho
/-- What was played: the two graphs. -/
theorem played_ex {K} {sc : List OpS} (hf : ∀ o ∈ sc, o.f.length ≤ 140737488355328) : ∃ G : GS, Play G 60 ∧ Ok (bs K) 12 [.slice 5 (sc.map opV)] [] (.tup [.ref (.sub 0 0) 0, wV2 G.N G.E, .bool true]) [] (gNew 0 G) := by
 obtain ⟨G, h1, h2⟩ := prun_ex (K := K) hf 60 0 gs0 rfl (Nat.zero_le _) gs0_play
 exact ⟨G, h2, played_ok h1 rfl rfl⟩
end Go.Proofs.YtjabgfnljbnmmaaDoor
