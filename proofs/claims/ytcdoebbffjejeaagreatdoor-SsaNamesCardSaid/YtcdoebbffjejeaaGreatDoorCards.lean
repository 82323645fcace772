/-
  DERIVED. GIVEN WITH THE SEED: THE CARDS: each row of YtcdoebbffjejeaaGreatDoorRows.lean that lists a variable, with what it lists TIED to the program's text (the seventh form; the later family's looks); each row that meets fmt, with fmt's text TOLD by the authors' own Lean function (tested against real Go, not proved from fmt's source: count such statements apart). THE CARD IS WHAT COUNTS. Prove the row's statement (the work); the ties are given (YtcdoebbffjejeaaGreatDoorTie.lean); close each card by the builder's one call (the guide's Derived/Test/ToyasCard.lean, 'card_holds'). Laid BY PROGRAM, IN A SANDBOX (cutbox-door.mjs). By AI agents, Wed Nov 11 2026. No macro, syntax, notation, axiom, sorry.
-/
import Derived.Test.YtcdoebbffjejeaaGreatDoorRows
import GoSem.ClaimSeven
namespace Go.Proofs.YtcdoebbffjejeaaGreatDoor
namespace Rows

/-- THE TIED CARD OF 'suretylaw14.SsaReads'. -/
def ssaReadsCard : Claim7 := { stood := { row := ssaReadsRow, standIns := [], harness := (true, "1c77238b0d54a205fdf1cb816ceae2cf22435d76ba2134f1737092eb3146e3f0"), looks := false }, kinds := [], alts := [], laidByText := true, laidKinds := [.data, .data, .data], laidTests := true, laidLooks := .later }
def SsaReadsCardSaid : Prop := Claim7.holds Tryz.pinned (.plain (OpenSpec.ofChange ssaReadsSpec)) ssaReadsCard

/-- THE TIED CARD OF 'suretylaw14.SsaRuns'. -/
def ssaRunsCard : Claim7 := { stood := { row := ssaRunsRow, standIns := [], harness := (true, "1c77238b0d54a205fdf1cb816ceae2cf22435d76ba2134f1737092eb3146e3f0"), looks := false }, kinds := [], alts := [], laidByText := true, laidKinds := [.data, .data, .data], laidTests := true, laidLooks := .later }
def SsaRunsCardSaid : Prop := Claim7.holds Tryz.pinned (.plain (OpenSpec.ofChange ssaRunsSpec)) ssaRunsCard

/-- THE TIED CARD OF 'suretylaw14.SsaNames'. -/
def ssaNamesCard : Claim7 := { stood := { row := ssaNamesRow, standIns := [], harness := (true, "1c77238b0d54a205fdf1cb816ceae2cf22435d76ba2134f1737092eb3146e3f0"), looks := false }, kinds := [], alts := [], laidByText := true, laidKinds := [.data, .data, .data], laidTests := true, laidLooks := .later }
def SsaNamesCardSaid : Prop := Claim7.holds Tryz.pinned (.plain (OpenSpec.ofChange ssaNamesSpec)) ssaNamesCard

/-- THE TIED CARD OF 'suretylaw14.SsaOnce'. -/
def ssaOnceCard : Claim7 := { stood := { row := ssaOnceRow, standIns := [], harness := (true, "1c77238b0d54a205fdf1cb816ceae2cf22435d76ba2134f1737092eb3146e3f0"), looks := false }, kinds := [], alts := [], laidByText := true, laidKinds := [.data, .data, .data], laidTests := true, laidLooks := .later }
def SsaOnceCardSaid : Prop := Claim7.holds Tryz.pinned (.plain (OpenSpec.ofChange ssaOnceSpec)) ssaOnceCard

/-- THE TIED CARD OF 'suretylaw14.SsaErases'. -/
def ssaErasesCard : Claim7 := { stood := { row := ssaErasesRow, standIns := [], harness := (true, "1c77238b0d54a205fdf1cb816ceae2cf22435d76ba2134f1737092eb3146e3f0"), looks := false }, kinds := [], alts := [], laidByText := true, laidKinds := [.data, .data, .data], laidTests := true, laidLooks := .later }
def SsaErasesCardSaid : Prop := Claim7.holds Tryz.pinned (.plain (OpenSpec.ofChange ssaErasesSpec)) ssaErasesCard

/-- THE SECOND FORM's CARD OF 'suretylaw14.SsaReads'. -/
def ssaReadsUptoCard : Claim7 := { stood := { row := ssaReadsUptoRow, standIns := [], harness := (true, "1c77238b0d54a205fdf1cb816ceae2cf22435d76ba2134f1737092eb3146e3f0"), looks := false }, kinds := [], alts := [], laidByText := true, laidKinds := [.data, .data, .data], laidTests := true, laidLooks := .later }
def SsaReadsUptoCardSaid : Prop := Claim7.holds Tryz.pinned (.plain (OpenSpec.upto ssaReadsSpec)) ssaReadsUptoCard

/-- THE SECOND FORM's CARD OF 'suretylaw14.SsaRuns'. -/
def ssaRunsUptoCard : Claim7 := { stood := { row := ssaRunsUptoRow, standIns := [], harness := (true, "1c77238b0d54a205fdf1cb816ceae2cf22435d76ba2134f1737092eb3146e3f0"), looks := false }, kinds := [], alts := [], laidByText := true, laidKinds := [.data, .data, .data], laidTests := true, laidLooks := .later }
def SsaRunsUptoCardSaid : Prop := Claim7.holds Tryz.pinned (.plain (OpenSpec.upto ssaRunsSpec)) ssaRunsUptoCard

/-- THE SECOND FORM's CARD OF 'suretylaw14.SsaNames'. -/
def ssaNamesUptoCard : Claim7 := { stood := { row := ssaNamesUptoRow, standIns := [], harness := (true, "1c77238b0d54a205fdf1cb816ceae2cf22435d76ba2134f1737092eb3146e3f0"), looks := false }, kinds := [], alts := [], laidByText := true, laidKinds := [.data, .data, .data], laidTests := true, laidLooks := .later }
def SsaNamesUptoCardSaid : Prop := Claim7.holds Tryz.pinned (.plain (OpenSpec.upto ssaNamesSpec)) ssaNamesUptoCard

/-- THE SECOND FORM's CARD OF 'suretylaw14.SsaOnce'. -/
def ssaOnceUptoCard : Claim7 := { stood := { row := ssaOnceUptoRow, standIns := [], harness := (true, "1c77238b0d54a205fdf1cb816ceae2cf22435d76ba2134f1737092eb3146e3f0"), looks := false }, kinds := [], alts := [], laidByText := true, laidKinds := [.data, .data, .data], laidTests := true, laidLooks := .later }
def SsaOnceUptoCardSaid : Prop := Claim7.holds Tryz.pinned (.plain (OpenSpec.upto ssaOnceSpec)) ssaOnceUptoCard

/-- THE SECOND FORM's CARD OF 'suretylaw14.SsaErases'. -/
def ssaErasesUptoCard : Claim7 := { stood := { row := ssaErasesUptoRow, standIns := [], harness := (true, "1c77238b0d54a205fdf1cb816ceae2cf22435d76ba2134f1737092eb3146e3f0"), looks := false }, kinds := [], alts := [], laidByText := true, laidKinds := [.data, .data, .data], laidTests := true, laidLooks := .later }
def SsaErasesUptoCardSaid : Prop := Claim7.holds Tryz.pinned (.plain (OpenSpec.upto ssaErasesSpec)) ssaErasesUptoCard
end Rows
end Go.Proofs.YtcdoebbffjejeaaGreatDoor
