/-
  NARROWER THAN 'FOR EVERY INPUT', by the rows' own cells (each row's printed sentence says how): EufExplains: laid · EufTerms: laid · EufPlays: laid · EufTrue: laid · EufTurned: laid · EufBack: laid · EufGrows: laid · EufClasses: laid.
  DERIVED. THE GIVEN ROWS OF THIS SEAT. 8 by the template 'for every input the law returns true; each argument reads behind the call as it read before'; 0 by the template 'total and deterministic' (their statements: YtjabgfnljbnmmaaDoorTotals.lean).
  GIVEN WITH THE SEED: the statements are not yours to turn. If you find one false, say at which input.
  Laid BY PROGRAM, IN A SANDBOX (cutbox-rows.mjs): the forced cells as the released guide's own fill.sh prints them over the translation 991e226a5dbca92f… (all of the seat's roots in one cut). By AI agents, Wed Nov 11 2026. No macro, syntax, notation, axiom, sorry.
-/
import Derived.Test.YtjabgfnljbnmmaaDoorChecked
import GoSem.Claim
import GoSem.ClaimJoined
import GoSem.ClaimMapViews
import Derived.JoinedTies
import Derived.KernelRfl
namespace Go.Proofs.YtjabgfnljbnmmaaDoor
/- THE CELL 'sum', in the pinned program and in every row, IS THE sha256 OF THE DUMP (.gsa) THAT YtjabgfnljbnmmaaDoorProg.lean LOADS. Nothing in Lean hashes anything: it is a label: what it is worth is what the hold of that sum in a sandbox is worth. -/
noncomputable def Tryd.pinned : Pinned := { name := "ytjabgfnljbnmmaadoor", sum := "991e226a5dbca92fa7d8c1059a207f7afb56eaf67344672e29a97d7db5f07f99", checked := Tryd.checked }
namespace Rows
def none {H : Type} : Left H := { results := [], args := [] }

/- WHAT THE LISTED PACKAGE-LEVEL VARIABLES READ AS WHEN THE CALL BEGINS. Each datum BY PROGRAM (the guide's laid-datum.mjs) off the statement by which the dump's own 'gosem.cut.vars' lays the variable. In a bare row this is a premise. The card (YtjabgfnljbnmmaaDoorCards.lean) ties it to the program's text. -/
def laid_math_bits_deBruijn32tab {H : Type} : DataW H := .agg [.lit (.int .u8 0), .lit (.int .u8 1), .lit (.int .u8 28), .lit (.int .u8 2), .lit (.int .u8 29), .lit (.int .u8 14), .lit (.int .u8 24), .lit (.int .u8 3), .lit (.int .u8 30), .lit (.int .u8 22), .lit (.int .u8 20), .lit (.int .u8 15), .lit (.int .u8 25), .lit (.int .u8 17), .lit (.int .u8 4), .lit (.int .u8 8), .lit (.int .u8 31), .lit (.int .u8 27), .lit (.int .u8 13), .lit (.int .u8 23), .lit (.int .u8 21), .lit (.int .u8 19), .lit (.int .u8 16), .lit (.int .u8 7), .lit (.int .u8 26), .lit (.int .u8 12), .lit (.int .u8 18), .lit (.int .u8 6), .lit (.int .u8 11), .lit (.int .u8 5), .lit (.int .u8 10), .lit (.int .u8 9)]
def laid_math_bits_deBruijn64tab {H : Type} : DataW H := .agg [.lit (.int .u8 0), .lit (.int .u8 1), .lit (.int .u8 56), .lit (.int .u8 2), .lit (.int .u8 57), .lit (.int .u8 49), .lit (.int .u8 28), .lit (.int .u8 3), .lit (.int .u8 61), .lit (.int .u8 58), .lit (.int .u8 42), .lit (.int .u8 50), .lit (.int .u8 38), .lit (.int .u8 29), .lit (.int .u8 17), .lit (.int .u8 4), .lit (.int .u8 62), .lit (.int .u8 47), .lit (.int .u8 59), .lit (.int .u8 36), .lit (.int .u8 45), .lit (.int .u8 43), .lit (.int .u8 51), .lit (.int .u8 22), .lit (.int .u8 53), .lit (.int .u8 39), .lit (.int .u8 33), .lit (.int .u8 30), .lit (.int .u8 24), .lit (.int .u8 18), .lit (.int .u8 12), .lit (.int .u8 5), .lit (.int .u8 63), .lit (.int .u8 55), .lit (.int .u8 48), .lit (.int .u8 27), .lit (.int .u8 60), .lit (.int .u8 41), .lit (.int .u8 37), .lit (.int .u8 16), .lit (.int .u8 46), .lit (.int .u8 35), .lit (.int .u8 44), .lit (.int .u8 21), .lit (.int .u8 52), .lit (.int .u8 32), .lit (.int .u8 23), .lit (.int .u8 11), .lit (.int .u8 54), .lit (.int .u8 26), .lit (.int .u8 40), .lit (.int .u8 15), .lit (.int .u8 34), .lit (.int .u8 20), .lit (.int .u8 31), .lit (.int .u8 10), .lit (.int .u8 25), .lit (.int .u8 14), .lit (.int .u8 19), .lit (.int .u8 9), .lit (.int .u8 13), .lit (.int .u8 8), .lit (.int .u8 7), .lit (.int .u8 6)]
def laid_internal_strconv_uint64pow10 {H : Type} : DataW H := .agg [.lit (.int .u64 1), .lit (.int .u64 10), .lit (.int .u64 100), .lit (.int .u64 1000), .lit (.int .u64 10000), .lit (.int .u64 100000), .lit (.int .u64 1000000), .lit (.int .u64 10000000), .lit (.int .u64 100000000), .lit (.int .u64 1000000000), .lit (.int .u64 10000000000), .lit (.int .u64 100000000000), .lit (.int .u64 1000000000000), .lit (.int .u64 10000000000000), .lit (.int .u64 100000000000000), .lit (.int .u64 1000000000000000), .lit (.int .u64 10000000000000000), .lit (.int .u64 100000000000000000), .lit (.int .u64 1000000000000000000), .lit (.int .u64 10000000000000000000)]

/-- 'suretylaw05.EufExplains': WHATEVER THE INPUT: true; the input reads as it did. -/
def eufExplainsSpec : ChangeSpec := { name := "eufExplains", fn := fun _ => fun
  | [d1, d2, d3] => { results := [.lit (.bool true)], args := [d1, d2, d3] }
  | _ => none }
def eufExplainsRow : OpenClaim := { program := "ytjabgfnljbnmmaadoor", sum := "991e226a5dbca92fa7d8c1059a207f7afb56eaf67344672e29a97d7db5f07f99", func := "surety/suretylaw05.EufExplains", spec := "eufExplains", named := ["internal/strconv.uint64pow10", "math/bits.deBruijn32tab", "math/bits.deBruijn64tab"], plainKeys := false, apart := false, laid := [("math/bits.deBruijn32tab", laid_math_bits_deBruijn32tab), ("math/bits.deBruijn64tab", laid_math_bits_deBruijn64tab), ("internal/strconv.uint64pow10", laid_internal_strconv_uint64pow10)] }
def EufExplainsSaid : Prop := eufExplainsRow.holds Tryd.pinned (OpenSpec.ofChange eufExplainsSpec)

/-- ITS FALSE NEIGHBOUR: 'it returns false'. Refute it at one input. -/
def eufExplainsWrong : ChangeSpec := { name := "eufExplains", fn := fun _ => fun
  | [d1, d2, d3] => { results := [.lit (.bool false)], args := [d1, d2, d3] }
  | _ => none }
def EufExplainsWrongFalsely : Prop := eufExplainsRow.holds Tryd.pinned (OpenSpec.ofChange eufExplainsWrong)

/-- 'suretylaw05.EufTerms': WHATEVER THE INPUT: true; the input reads as it did. -/
def eufTermsSpec : ChangeSpec := { name := "eufTerms", fn := fun _ => fun
  | [d1, d2] => { results := [.lit (.bool true)], args := [d1, d2] }
  | _ => none }
def eufTermsRow : OpenClaim := { program := "ytjabgfnljbnmmaadoor", sum := "991e226a5dbca92fa7d8c1059a207f7afb56eaf67344672e29a97d7db5f07f99", func := "surety/suretylaw05.EufTerms", spec := "eufTerms", named := ["internal/strconv.uint64pow10", "math/bits.deBruijn32tab", "math/bits.deBruijn64tab"], plainKeys := false, apart := false, laid := [("math/bits.deBruijn32tab", laid_math_bits_deBruijn32tab), ("math/bits.deBruijn64tab", laid_math_bits_deBruijn64tab), ("internal/strconv.uint64pow10", laid_internal_strconv_uint64pow10)] }
def EufTermsSaid : Prop := eufTermsRow.holds Tryd.pinned (OpenSpec.ofChange eufTermsSpec)

/-- ITS FALSE NEIGHBOUR: 'it returns false'. Refute it at one input. -/
def eufTermsWrong : ChangeSpec := { name := "eufTerms", fn := fun _ => fun
  | [d1, d2] => { results := [.lit (.bool false)], args := [d1, d2] }
  | _ => none }
def EufTermsWrongFalsely : Prop := eufTermsRow.holds Tryd.pinned (OpenSpec.ofChange eufTermsWrong)

/-- 'suretylaw05.EufPlays': WHATEVER THE INPUT: true; the input reads as it did. -/
def eufPlaysSpec : ChangeSpec := { name := "eufPlays", fn := fun _ => fun
  | [d] => { results := [.lit (.bool true)], args := [d] }
  | _ => none }
def eufPlaysRow : OpenClaim := { program := "ytjabgfnljbnmmaadoor", sum := "991e226a5dbca92fa7d8c1059a207f7afb56eaf67344672e29a97d7db5f07f99", func := "surety/suretylaw05.EufPlays", spec := "eufPlays", named := ["internal/strconv.uint64pow10", "math/bits.deBruijn32tab", "math/bits.deBruijn64tab"], plainKeys := false, apart := false, laid := [("math/bits.deBruijn32tab", laid_math_bits_deBruijn32tab), ("math/bits.deBruijn64tab", laid_math_bits_deBruijn64tab), ("internal/strconv.uint64pow10", laid_internal_strconv_uint64pow10)] }
def EufPlaysSaid : Prop := eufPlaysRow.holds Tryd.pinned (OpenSpec.ofChange eufPlaysSpec)

/-- ITS FALSE NEIGHBOUR: 'it returns false'. Refute it at one input. -/
def eufPlaysWrong : ChangeSpec := { name := "eufPlays", fn := fun _ => fun
  | [d] => { results := [.lit (.bool false)], args := [d] }
  | _ => none }
def EufPlaysWrongFalsely : Prop := eufPlaysRow.holds Tryd.pinned (OpenSpec.ofChange eufPlaysWrong)

/-- 'suretylaw05.EufTrue': WHATEVER THE INPUT: true; the input reads as it did. -/
def eufTrueSpec : ChangeSpec := { name := "eufTrue", fn := fun _ => fun
  | [d1, d2] => { results := [.lit (.bool true)], args := [d1, d2] }
  | _ => none }
def eufTrueRow : OpenClaim := { program := "ytjabgfnljbnmmaadoor", sum := "991e226a5dbca92fa7d8c1059a207f7afb56eaf67344672e29a97d7db5f07f99", func := "surety/suretylaw05.EufTrue", spec := "eufTrue", named := ["internal/strconv.uint64pow10", "math/bits.deBruijn32tab", "math/bits.deBruijn64tab"], plainKeys := false, apart := false, laid := [("math/bits.deBruijn32tab", laid_math_bits_deBruijn32tab), ("math/bits.deBruijn64tab", laid_math_bits_deBruijn64tab), ("internal/strconv.uint64pow10", laid_internal_strconv_uint64pow10)] }
def EufTrueSaid : Prop := eufTrueRow.holds Tryd.pinned (OpenSpec.ofChange eufTrueSpec)

/-- ITS FALSE NEIGHBOUR: 'it returns false'. Refute it at one input. -/
def eufTrueWrong : ChangeSpec := { name := "eufTrue", fn := fun _ => fun
  | [d1, d2] => { results := [.lit (.bool false)], args := [d1, d2] }
  | _ => none }
def EufTrueWrongFalsely : Prop := eufTrueRow.holds Tryd.pinned (OpenSpec.ofChange eufTrueWrong)

/-- 'suretylaw05.EufTurned': WHATEVER THE INPUT: true; the input reads as it did. -/
def eufTurnedSpec : ChangeSpec := { name := "eufTurned", fn := fun _ => fun
  | [d] => { results := [.lit (.bool true)], args := [d] }
  | _ => none }
def eufTurnedRow : OpenClaim := { program := "ytjabgfnljbnmmaadoor", sum := "991e226a5dbca92fa7d8c1059a207f7afb56eaf67344672e29a97d7db5f07f99", func := "surety/suretylaw05.EufTurned", spec := "eufTurned", named := ["internal/strconv.uint64pow10", "math/bits.deBruijn32tab", "math/bits.deBruijn64tab"], plainKeys := false, apart := false, laid := [("math/bits.deBruijn32tab", laid_math_bits_deBruijn32tab), ("math/bits.deBruijn64tab", laid_math_bits_deBruijn64tab), ("internal/strconv.uint64pow10", laid_internal_strconv_uint64pow10)] }
def EufTurnedSaid : Prop := eufTurnedRow.holds Tryd.pinned (OpenSpec.ofChange eufTurnedSpec)

/-- ITS FALSE NEIGHBOUR: 'it returns false'. Refute it at one input. -/
def eufTurnedWrong : ChangeSpec := { name := "eufTurned", fn := fun _ => fun
  | [d] => { results := [.lit (.bool false)], args := [d] }
  | _ => none }
def EufTurnedWrongFalsely : Prop := eufTurnedRow.holds Tryd.pinned (OpenSpec.ofChange eufTurnedWrong)

/-- 'suretylaw05.EufBack': WHATEVER THE INPUT: true; the input reads as it did. -/
def eufBackSpec : ChangeSpec := { name := "eufBack", fn := fun _ => fun
  | [d1, d2] => { results := [.lit (.bool true)], args := [d1, d2] }
  | _ => none }
def eufBackRow : OpenClaim := { program := "ytjabgfnljbnmmaadoor", sum := "991e226a5dbca92fa7d8c1059a207f7afb56eaf67344672e29a97d7db5f07f99", func := "surety/suretylaw05.EufBack", spec := "eufBack", named := ["internal/strconv.uint64pow10", "math/bits.deBruijn32tab", "math/bits.deBruijn64tab"], plainKeys := false, apart := false, laid := [("math/bits.deBruijn32tab", laid_math_bits_deBruijn32tab), ("math/bits.deBruijn64tab", laid_math_bits_deBruijn64tab), ("internal/strconv.uint64pow10", laid_internal_strconv_uint64pow10)] }
def EufBackSaid : Prop := eufBackRow.holds Tryd.pinned (OpenSpec.ofChange eufBackSpec)

/-- ITS FALSE NEIGHBOUR: 'it returns false'. Refute it at one input. -/
def eufBackWrong : ChangeSpec := { name := "eufBack", fn := fun _ => fun
  | [d1, d2] => { results := [.lit (.bool false)], args := [d1, d2] }
  | _ => none }
def EufBackWrongFalsely : Prop := eufBackRow.holds Tryd.pinned (OpenSpec.ofChange eufBackWrong)

/-- 'suretylaw05.EufGrows': WHATEVER THE INPUT: true; the input reads as it did. -/
def eufGrowsSpec : ChangeSpec := { name := "eufGrows", fn := fun _ => fun
  | [d1, d2, d3] => { results := [.lit (.bool true)], args := [d1, d2, d3] }
  | _ => none }
def eufGrowsRow : OpenClaim := { program := "ytjabgfnljbnmmaadoor", sum := "991e226a5dbca92fa7d8c1059a207f7afb56eaf67344672e29a97d7db5f07f99", func := "surety/suretylaw05.EufGrows", spec := "eufGrows", named := ["internal/strconv.uint64pow10", "math/bits.deBruijn32tab", "math/bits.deBruijn64tab"], plainKeys := false, apart := false, laid := [("math/bits.deBruijn32tab", laid_math_bits_deBruijn32tab), ("math/bits.deBruijn64tab", laid_math_bits_deBruijn64tab), ("internal/strconv.uint64pow10", laid_internal_strconv_uint64pow10)] }
def EufGrowsSaid : Prop := eufGrowsRow.holds Tryd.pinned (OpenSpec.ofChange eufGrowsSpec)

/-- ITS FALSE NEIGHBOUR: 'it returns false'. Refute it at one input. -/
def eufGrowsWrong : ChangeSpec := { name := "eufGrows", fn := fun _ => fun
  | [d1, d2, d3] => { results := [.lit (.bool false)], args := [d1, d2, d3] }
  | _ => none }
def EufGrowsWrongFalsely : Prop := eufGrowsRow.holds Tryd.pinned (OpenSpec.ofChange eufGrowsWrong)

/-- 'suretylaw05.EufClasses': WHATEVER THE INPUT: true; the input reads as it did. -/
def eufClassesSpec : ChangeSpec := { name := "eufClasses", fn := fun _ => fun
  | [d1, d2] => { results := [.lit (.bool true)], args := [d1, d2] }
  | _ => none }
def eufClassesRow : OpenClaim := { program := "ytjabgfnljbnmmaadoor", sum := "991e226a5dbca92fa7d8c1059a207f7afb56eaf67344672e29a97d7db5f07f99", func := "surety/suretylaw05.EufClasses", spec := "eufClasses", unfollowed := true, recurses := true, named := ["internal/strconv.uint64pow10", "math/bits.deBruijn32tab", "math/bits.deBruijn64tab"], plainKeys := false, apart := false, laid := [("math/bits.deBruijn32tab", laid_math_bits_deBruijn32tab), ("math/bits.deBruijn64tab", laid_math_bits_deBruijn64tab), ("internal/strconv.uint64pow10", laid_internal_strconv_uint64pow10)] }
def EufClassesSaid : Prop := eufClassesRow.holds Tryd.pinned (OpenSpec.ofChange eufClassesSpec)

/-- ITS FALSE NEIGHBOUR: 'it returns false'. Refute it at one input. -/
def eufClassesWrong : ChangeSpec := { name := "eufClasses", fn := fun _ => fun
  | [d1, d2] => { results := [.lit (.bool false)], args := [d1, d2] }
  | _ => none }
def EufClassesWrongFalsely : Prop := eufClassesRow.holds Tryd.pinned (OpenSpec.ofChange eufClassesWrong)

/- THE SECOND FORM. 'bulk': how many values and letters a reading holds, each counted each time it is reached (what is shared counts as often as it is met; a slice's spare places count too). A statement '..UptoSaid' is the law's where the arguments, and the package variables that the reading takes, are together of bulk at most 1048576: NARROWER than '..Said'. Prove '..Said' where nothing that the law and all that it calls make is longer than what came in: it says more and counts as full. Else prove '..UptoSaid'. A law counts once. -/
mutual
def uptoBulk {H : Type} : DataW H → Nat
  | .lit (.string bytes) => bytes.length + 1
  | .lit _ => 1
  | .nil => 1
  | .ptr d => uptoBulk d + 1
  | .slice elems spare => uptoBulkAll elems + uptoBulkAll spare + 1
  | .agg parts => uptoBulkAll parts + 1
  | .iface _ d => uptoBulk d + 1
  | .map entries => uptoBulkEntries entries + 1
  | .held _ => 1
def uptoBulkAll {H : Type} : List (DataW H) → Nat
  | [] => 0
  | d :: r => uptoBulk d + uptoBulkAll r
def uptoBulkEntries {H : Type} : List (Lit × DataW H) → Nat
  | [] => 0
  | x :: r => uptoBulkEntry x + uptoBulkEntries r
def uptoBulkEntry {H : Type} : Lit × DataW H → Nat
  | (.string bytes, d) => bytes.length + uptoBulk d + 1
  | (_, d) => uptoBulk d + 1
 end
def uptoSmall : (H : Type) → List (DataW H) → Bool := fun _ ds => decide (uptoBulkAll ds ≤ 1048576)
def OpenSpec.upto (s : _root_.Go.ChangeSpec) : _root_.Go.OpenSpec := { _root_.Go.OpenSpec.ofChange s with cond := some uptoSmall }

/-- 'suretylaw05.EufExplains', WHERE WHAT IT READS IS OF BULK AT MOST 1048576: true; the input reads as it did. -/
def eufExplainsUptoRow : OpenClaim := { program := "ytjabgfnljbnmmaadoor", sum := "991e226a5dbca92fa7d8c1059a207f7afb56eaf67344672e29a97d7db5f07f99", func := "surety/suretylaw05.EufExplains", spec := "eufExplains", named := ["internal/strconv.uint64pow10", "math/bits.deBruijn32tab", "math/bits.deBruijn64tab"], plainKeys := false, apart := false, laid := [("math/bits.deBruijn32tab", laid_math_bits_deBruijn32tab), ("math/bits.deBruijn64tab", laid_math_bits_deBruijn64tab), ("internal/strconv.uint64pow10", laid_internal_strconv_uint64pow10)], narrowed := true }
def EufExplainsUptoSaid : Prop := eufExplainsUptoRow.holds Tryd.pinned (OpenSpec.upto eufExplainsSpec)

/-- 'suretylaw05.EufTerms', WHERE WHAT IT READS IS OF BULK AT MOST 1048576: true; the input reads as it did. -/
def eufTermsUptoRow : OpenClaim := { program := "ytjabgfnljbnmmaadoor", sum := "991e226a5dbca92fa7d8c1059a207f7afb56eaf67344672e29a97d7db5f07f99", func := "surety/suretylaw05.EufTerms", spec := "eufTerms", named := ["internal/strconv.uint64pow10", "math/bits.deBruijn32tab", "math/bits.deBruijn64tab"], plainKeys := false, apart := false, laid := [("math/bits.deBruijn32tab", laid_math_bits_deBruijn32tab), ("math/bits.deBruijn64tab", laid_math_bits_deBruijn64tab), ("internal/strconv.uint64pow10", laid_internal_strconv_uint64pow10)], narrowed := true }
def EufTermsUptoSaid : Prop := eufTermsUptoRow.holds Tryd.pinned (OpenSpec.upto eufTermsSpec)

/-- 'suretylaw05.EufPlays', WHERE WHAT IT READS IS OF BULK AT MOST 1048576: true; the input reads as it did. -/
def eufPlaysUptoRow : OpenClaim := { program := "ytjabgfnljbnmmaadoor", sum := "991e226a5dbca92fa7d8c1059a207f7afb56eaf67344672e29a97d7db5f07f99", func := "surety/suretylaw05.EufPlays", spec := "eufPlays", named := ["internal/strconv.uint64pow10", "math/bits.deBruijn32tab", "math/bits.deBruijn64tab"], plainKeys := false, apart := false, laid := [("math/bits.deBruijn32tab", laid_math_bits_deBruijn32tab), ("math/bits.deBruijn64tab", laid_math_bits_deBruijn64tab), ("internal/strconv.uint64pow10", laid_internal_strconv_uint64pow10)], narrowed := true }
def EufPlaysUptoSaid : Prop := eufPlaysUptoRow.holds Tryd.pinned (OpenSpec.upto eufPlaysSpec)

/-- 'suretylaw05.EufTrue', WHERE WHAT IT READS IS OF BULK AT MOST 1048576: true; the input reads as it did. -/
def eufTrueUptoRow : OpenClaim := { program := "ytjabgfnljbnmmaadoor", sum := "991e226a5dbca92fa7d8c1059a207f7afb56eaf67344672e29a97d7db5f07f99", func := "surety/suretylaw05.EufTrue", spec := "eufTrue", named := ["internal/strconv.uint64pow10", "math/bits.deBruijn32tab", "math/bits.deBruijn64tab"], plainKeys := false, apart := false, laid := [("math/bits.deBruijn32tab", laid_math_bits_deBruijn32tab), ("math/bits.deBruijn64tab", laid_math_bits_deBruijn64tab), ("internal/strconv.uint64pow10", laid_internal_strconv_uint64pow10)], narrowed := true }
def EufTrueUptoSaid : Prop := eufTrueUptoRow.holds Tryd.pinned (OpenSpec.upto eufTrueSpec)

/-- 'suretylaw05.EufTurned', WHERE WHAT IT READS IS OF BULK AT MOST 1048576: true; the input reads as it did. -/
def eufTurnedUptoRow : OpenClaim := { program := "ytjabgfnljbnmmaadoor", sum := "991e226a5dbca92fa7d8c1059a207f7afb56eaf67344672e29a97d7db5f07f99", func := "surety/suretylaw05.EufTurned", spec := "eufTurned", named := ["internal/strconv.uint64pow10", "math/bits.deBruijn32tab", "math/bits.deBruijn64tab"], plainKeys := false, apart := false, laid := [("math/bits.deBruijn32tab", laid_math_bits_deBruijn32tab), ("math/bits.deBruijn64tab", laid_math_bits_deBruijn64tab), ("internal/strconv.uint64pow10", laid_internal_strconv_uint64pow10)], narrowed := true }
def EufTurnedUptoSaid : Prop := eufTurnedUptoRow.holds Tryd.pinned (OpenSpec.upto eufTurnedSpec)

/-- 'suretylaw05.EufBack', WHERE WHAT IT READS IS OF BULK AT MOST 1048576: true; the input reads as it did. -/
def eufBackUptoRow : OpenClaim := { program := "ytjabgfnljbnmmaadoor", sum := "991e226a5dbca92fa7d8c1059a207f7afb56eaf67344672e29a97d7db5f07f99", func := "surety/suretylaw05.EufBack", spec := "eufBack", named := ["internal/strconv.uint64pow10", "math/bits.deBruijn32tab", "math/bits.deBruijn64tab"], plainKeys := false, apart := false, laid := [("math/bits.deBruijn32tab", laid_math_bits_deBruijn32tab), ("math/bits.deBruijn64tab", laid_math_bits_deBruijn64tab), ("internal/strconv.uint64pow10", laid_internal_strconv_uint64pow10)], narrowed := true }
def EufBackUptoSaid : Prop := eufBackUptoRow.holds Tryd.pinned (OpenSpec.upto eufBackSpec)

/-- 'suretylaw05.EufGrows', WHERE WHAT IT READS IS OF BULK AT MOST 1048576: true; the input reads as it did. -/
def eufGrowsUptoRow : OpenClaim := { program := "ytjabgfnljbnmmaadoor", sum := "991e226a5dbca92fa7d8c1059a207f7afb56eaf67344672e29a97d7db5f07f99", func := "surety/suretylaw05.EufGrows", spec := "eufGrows", named := ["internal/strconv.uint64pow10", "math/bits.deBruijn32tab", "math/bits.deBruijn64tab"], plainKeys := false, apart := false, laid := [("math/bits.deBruijn32tab", laid_math_bits_deBruijn32tab), ("math/bits.deBruijn64tab", laid_math_bits_deBruijn64tab), ("internal/strconv.uint64pow10", laid_internal_strconv_uint64pow10)], narrowed := true }
def EufGrowsUptoSaid : Prop := eufGrowsUptoRow.holds Tryd.pinned (OpenSpec.upto eufGrowsSpec)

/-- 'suretylaw05.EufClasses', WHERE WHAT IT READS IS OF BULK AT MOST 1048576: true; the input reads as it did. -/
def eufClassesUptoRow : OpenClaim := { program := "ytjabgfnljbnmmaadoor", sum := "991e226a5dbca92fa7d8c1059a207f7afb56eaf67344672e29a97d7db5f07f99", func := "surety/suretylaw05.EufClasses", spec := "eufClasses", unfollowed := true, recurses := true, named := ["internal/strconv.uint64pow10", "math/bits.deBruijn32tab", "math/bits.deBruijn64tab"], plainKeys := false, apart := false, laid := [("math/bits.deBruijn32tab", laid_math_bits_deBruijn32tab), ("math/bits.deBruijn64tab", laid_math_bits_deBruijn64tab), ("internal/strconv.uint64pow10", laid_internal_strconv_uint64pow10)], narrowed := true }
def EufClassesUptoSaid : Prop := eufClassesUptoRow.holds Tryd.pinned (OpenSpec.upto eufClassesSpec)

end Rows
end Go.Proofs.YtjabgfnljbnmmaaDoor
