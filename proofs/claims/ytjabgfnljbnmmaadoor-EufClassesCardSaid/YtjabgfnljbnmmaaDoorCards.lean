/-
  DERIVED. GIVEN WITH THE SEED: THE CARDS: each row of YtjabgfnljbnmmaaDoorRows.lean that lists a variable, with what it lists TIED to the program's text (the seventh form; the later family's looks); each row that meets fmt, with fmt's text TOLD by the authors' own Lean function (tested against real Go, not proved from fmt's source: count such statements apart). THE CARD IS WHAT COUNTS. Prove the row's statement (the work); the ties are given (YtjabgfnljbnmmaaDoorTie.lean); close each card by the builder's one call (the guide's Derived/Test/ToyasCard.lean, 'card_holds'). Laid BY PROGRAM, IN A SANDBOX (cutbox-door.mjs). By AI agents, Wed Nov 11 2026. No macro, syntax, notation, axiom, sorry.
-/
import Derived.Test.YtjabgfnljbnmmaaDoorRows
import GoSem.ClaimSeven
namespace Go.Proofs.YtjabgfnljbnmmaaDoor
namespace Rows

/-- THE TIED CARD OF 'suretylaw05.EufExplains'. -/
def eufExplainsCard : Claim7 := { stood := { row := eufExplainsRow, standIns := [], harness := (true, "f0e185ff6017987945a297fe5d0eac8124a69dbff48b3e4e9b161e79e362512c"), looks := false }, kinds := [], alts := [], laidByText := true, laidKinds := [.data, .data, .data], laidTests := true, laidLooks := .later }
def EufExplainsCardSaid : Prop := Claim7.holds Tryd.pinned (.plain (OpenSpec.ofChange eufExplainsSpec)) eufExplainsCard

/-- THE TIED CARD OF 'suretylaw05.EufTerms'. -/
def eufTermsCard : Claim7 := { stood := { row := eufTermsRow, standIns := [], harness := (true, "f0e185ff6017987945a297fe5d0eac8124a69dbff48b3e4e9b161e79e362512c"), looks := false }, kinds := [], alts := [], laidByText := true, laidKinds := [.data, .data, .data], laidTests := true, laidLooks := .later }
def EufTermsCardSaid : Prop := Claim7.holds Tryd.pinned (.plain (OpenSpec.ofChange eufTermsSpec)) eufTermsCard

/-- THE TIED CARD OF 'suretylaw05.EufPlays'. -/
def eufPlaysCard : Claim7 := { stood := { row := eufPlaysRow, standIns := [], harness := (true, "f0e185ff6017987945a297fe5d0eac8124a69dbff48b3e4e9b161e79e362512c"), looks := false }, kinds := [], alts := [], laidByText := true, laidKinds := [.data, .data, .data], laidTests := true, laidLooks := .later }
def EufPlaysCardSaid : Prop := Claim7.holds Tryd.pinned (.plain (OpenSpec.ofChange eufPlaysSpec)) eufPlaysCard

/-- THE TIED CARD OF 'suretylaw05.EufTrue'. -/
def eufTrueCard : Claim7 := { stood := { row := eufTrueRow, standIns := [], harness := (true, "f0e185ff6017987945a297fe5d0eac8124a69dbff48b3e4e9b161e79e362512c"), looks := false }, kinds := [], alts := [], laidByText := true, laidKinds := [.data, .data, .data], laidTests := true, laidLooks := .later }
def EufTrueCardSaid : Prop := Claim7.holds Tryd.pinned (.plain (OpenSpec.ofChange eufTrueSpec)) eufTrueCard

/-- THE TIED CARD OF 'suretylaw05.EufTurned'. -/
def eufTurnedCard : Claim7 := { stood := { row := eufTurnedRow, standIns := [], harness := (true, "f0e185ff6017987945a297fe5d0eac8124a69dbff48b3e4e9b161e79e362512c"), looks := false }, kinds := [], alts := [], laidByText := true, laidKinds := [.data, .data, .data], laidTests := true, laidLooks := .later }
def EufTurnedCardSaid : Prop := Claim7.holds Tryd.pinned (.plain (OpenSpec.ofChange eufTurnedSpec)) eufTurnedCard

/-- THE TIED CARD OF 'suretylaw05.EufBack'. -/
def eufBackCard : Claim7 := { stood := { row := eufBackRow, standIns := [], harness := (true, "f0e185ff6017987945a297fe5d0eac8124a69dbff48b3e4e9b161e79e362512c"), looks := false }, kinds := [], alts := [], laidByText := true, laidKinds := [.data, .data, .data], laidTests := true, laidLooks := .later }
def EufBackCardSaid : Prop := Claim7.holds Tryd.pinned (.plain (OpenSpec.ofChange eufBackSpec)) eufBackCard

/-- THE TIED CARD OF 'suretylaw05.EufGrows'. -/
def eufGrowsCard : Claim7 := { stood := { row := eufGrowsRow, standIns := [], harness := (true, "f0e185ff6017987945a297fe5d0eac8124a69dbff48b3e4e9b161e79e362512c"), looks := false }, kinds := [], alts := [], laidByText := true, laidKinds := [.data, .data, .data], laidTests := true, laidLooks := .later }
def EufGrowsCardSaid : Prop := Claim7.holds Tryd.pinned (.plain (OpenSpec.ofChange eufGrowsSpec)) eufGrowsCard

/-- THE TIED CARD OF 'suretylaw05.EufClasses'. -/
def eufClassesCard : Claim7 := { stood := { row := eufClassesRow, standIns := [], harness := (true, "f0e185ff6017987945a297fe5d0eac8124a69dbff48b3e4e9b161e79e362512c"), looks := false }, kinds := [], alts := [], laidByText := true, laidKinds := [.data, .data, .data], laidTests := true, laidLooks := .later }
def EufClassesCardSaid : Prop := Claim7.holds Tryd.pinned (.plain (OpenSpec.ofChange eufClassesSpec)) eufClassesCard

/-- THE SECOND FORM's CARD OF 'suretylaw05.EufExplains'. -/
def eufExplainsUptoCard : Claim7 := { stood := { row := eufExplainsUptoRow, standIns := [], harness := (true, "f0e185ff6017987945a297fe5d0eac8124a69dbff48b3e4e9b161e79e362512c"), looks := false }, kinds := [], alts := [], laidByText := true, laidKinds := [.data, .data, .data], laidTests := true, laidLooks := .later }
def EufExplainsUptoCardSaid : Prop := Claim7.holds Tryd.pinned (.plain (OpenSpec.upto eufExplainsSpec)) eufExplainsUptoCard

/-- THE SECOND FORM's CARD OF 'suretylaw05.EufTerms'. -/
def eufTermsUptoCard : Claim7 := { stood := { row := eufTermsUptoRow, standIns := [], harness := (true, "f0e185ff6017987945a297fe5d0eac8124a69dbff48b3e4e9b161e79e362512c"), looks := false }, kinds := [], alts := [], laidByText := true, laidKinds := [.data, .data, .data], laidTests := true, laidLooks := .later }
def EufTermsUptoCardSaid : Prop := Claim7.holds Tryd.pinned (.plain (OpenSpec.upto eufTermsSpec)) eufTermsUptoCard

/-- THE SECOND FORM's CARD OF 'suretylaw05.EufPlays'. -/
def eufPlaysUptoCard : Claim7 := { stood := { row := eufPlaysUptoRow, standIns := [], harness := (true, "f0e185ff6017987945a297fe5d0eac8124a69dbff48b3e4e9b161e79e362512c"), looks := false }, kinds := [], alts := [], laidByText := true, laidKinds := [.data, .data, .data], laidTests := true, laidLooks := .later }
def EufPlaysUptoCardSaid : Prop := Claim7.holds Tryd.pinned (.plain (OpenSpec.upto eufPlaysSpec)) eufPlaysUptoCard

/-- THE SECOND FORM's CARD OF 'suretylaw05.EufTrue'. -/
def eufTrueUptoCard : Claim7 := { stood := { row := eufTrueUptoRow, standIns := [], harness := (true, "f0e185ff6017987945a297fe5d0eac8124a69dbff48b3e4e9b161e79e362512c"), looks := false }, kinds := [], alts := [], laidByText := true, laidKinds := [.data, .data, .data], laidTests := true, laidLooks := .later }
def EufTrueUptoCardSaid : Prop := Claim7.holds Tryd.pinned (.plain (OpenSpec.upto eufTrueSpec)) eufTrueUptoCard

/-- THE SECOND FORM's CARD OF 'suretylaw05.EufTurned'. -/
def eufTurnedUptoCard : Claim7 := { stood := { row := eufTurnedUptoRow, standIns := [], harness := (true, "f0e185ff6017987945a297fe5d0eac8124a69dbff48b3e4e9b161e79e362512c"), looks := false }, kinds := [], alts := [], laidByText := true, laidKinds := [.data, .data, .data], laidTests := true, laidLooks := .later }
def EufTurnedUptoCardSaid : Prop := Claim7.holds Tryd.pinned (.plain (OpenSpec.upto eufTurnedSpec)) eufTurnedUptoCard

/-- THE SECOND FORM's CARD OF 'suretylaw05.EufBack'. -/
def eufBackUptoCard : Claim7 := { stood := { row := eufBackUptoRow, standIns := [], harness := (true, "f0e185ff6017987945a297fe5d0eac8124a69dbff48b3e4e9b161e79e362512c"), looks := false }, kinds := [], alts := [], laidByText := true, laidKinds := [.data, .data, .data], laidTests := true, laidLooks := .later }
def EufBackUptoCardSaid : Prop := Claim7.holds Tryd.pinned (.plain (OpenSpec.upto eufBackSpec)) eufBackUptoCard

/-- THE SECOND FORM's CARD OF 'suretylaw05.EufGrows'. -/
def eufGrowsUptoCard : Claim7 := { stood := { row := eufGrowsUptoRow, standIns := [], harness := (true, "f0e185ff6017987945a297fe5d0eac8124a69dbff48b3e4e9b161e79e362512c"), looks := false }, kinds := [], alts := [], laidByText := true, laidKinds := [.data, .data, .data], laidTests := true, laidLooks := .later }
def EufGrowsUptoCardSaid : Prop := Claim7.holds Tryd.pinned (.plain (OpenSpec.upto eufGrowsSpec)) eufGrowsUptoCard

/-- THE SECOND FORM's CARD OF 'suretylaw05.EufClasses'. -/
def eufClassesUptoCard : Claim7 := { stood := { row := eufClassesUptoRow, standIns := [], harness := (true, "f0e185ff6017987945a297fe5d0eac8124a69dbff48b3e4e9b161e79e362512c"), looks := false }, kinds := [], alts := [], laidByText := true, laidKinds := [.data, .data, .data], laidTests := true, laidLooks := .later }
def EufClassesUptoCardSaid : Prop := Claim7.holds Tryd.pinned (.plain (OpenSpec.upto eufClassesSpec)) eufClassesUptoCard
end Rows
end Go.Proofs.YtjabgfnljbnmmaaDoor
