/-
  DERIVED. GIVEN WITH THE SEED: THE CARDS: each row of YtjfnhdiimibmiaaDoorRows.lean that lists a variable, with what it lists TIED to the program's text (the seventh form; the later family's looks); each row that meets fmt, with fmt's text TOLD by the authors' own Lean function (tested against real Go, not proved from fmt's source: count such statements apart). THE CARD IS WHAT COUNTS. Prove the row's statement (the work); the ties are given (YtjfnhdiimibmiaaDoorTie.lean); close each card by the builder's one call (the guide's Derived/Test/ToyasCard.lean, 'card_holds'). Laid BY PROGRAM, IN A SANDBOX (cutbox-door.mjs). By AI agents, Wed Nov 11 2026. No macro, syntax, notation, axiom, sorry.
-/
import Derived.Test.YtjfnhdiimibmiaaDoorRows
import GoSem.ClaimSeven
namespace Go.Proofs.YtjfnhdiimibmiaaDoor
namespace Rows

/-- THE TIED CARD OF 'bastillelaw43.LotCalls'. -/
def lotCallsCard : Claim7 := { stood := { row := lotCallsRow, standIns := [], harness := (true, "b9ce61e8288dbd922feb2430169bee0c13e856a5f3c4720026433ba06d84c94c"), looks := false }, kinds := [], alts := [], laidByText := true, laidKinds := [.data], laidTests := true, laidLooks := .later }
def LotCallsCardSaid : Prop := Claim7.holds Tryd.pinned (.plain (OpenSpec.ofChange lotCallsSpec)) lotCallsCard

/-- THE TIED CARD OF 'bastillelaw43.LotMay'. -/
def lotMayCard : Claim7 := { stood := { row := lotMayRow, standIns := [], harness := (true, "b9ce61e8288dbd922feb2430169bee0c13e856a5f3c4720026433ba06d84c94c"), looks := false }, kinds := [], alts := [], laidByText := true, laidKinds := [.data, .data], laidTests := true, laidLooks := .later }
def LotMayCardSaid : Prop := Claim7.holds Tryd.pinned (.plain (OpenSpec.ofChange lotMaySpec)) lotMayCard

/-- THE SECOND FORM's CARD OF 'bastillelaw43.LotCalls'. -/
def lotCallsUptoCard : Claim7 := { stood := { row := lotCallsUptoRow, standIns := [], harness := (true, "b9ce61e8288dbd922feb2430169bee0c13e856a5f3c4720026433ba06d84c94c"), looks := false }, kinds := [], alts := [], laidByText := true, laidKinds := [.data], laidTests := true, laidLooks := .later }
def LotCallsUptoCardSaid : Prop := Claim7.holds Tryd.pinned (.plain (OpenSpec.upto lotCallsSpec)) lotCallsUptoCard

/-- THE SECOND FORM's CARD OF 'bastillelaw43.LotMay'. -/
def lotMayUptoCard : Claim7 := { stood := { row := lotMayUptoRow, standIns := [], harness := (true, "b9ce61e8288dbd922feb2430169bee0c13e856a5f3c4720026433ba06d84c94c"), looks := false }, kinds := [], alts := [], laidByText := true, laidKinds := [.data, .data], laidTests := true, laidLooks := .later }
def LotMayUptoCardSaid : Prop := Claim7.holds Tryd.pinned (.plain (OpenSpec.upto lotMaySpec)) lotMayUptoCard
end Rows
end Go.Proofs.YtjfnhdiimibmiaaDoor
