/-
  DERIVED. GIVEN WITH THE SEED: THE CARDS: each row of YtndfjapojjinaaaDoorRows.lean that lists a variable, with what it lists TIED to the program's text (the seventh form; the later family's looks); each row that meets fmt, with fmt's text TOLD by the authors' own Lean function (tested against real Go, not proved from fmt's source: count such statements apart). THE CARD IS WHAT COUNTS. Prove the row's statement (the work); the ties are given (YtndfjapojjinaaaDoorTie.lean); close each card by the builder's one call (the guide's Derived/Test/ToyasCard.lean, 'card_holds'). Laid BY PROGRAM, IN A SANDBOX (cutbox-door.mjs). By AI agents, Wed Nov 11 2026. No macro, syntax, notation, axiom, sorry.
-/
import Derived.Test.YtndfjapojjinaaaDoorRows
import GoSem.ClaimSeven
namespace Go.Proofs.YtndfjapojjinaaaDoor
namespace Rows

/-- THE TIED CARD OF 'exciselaw25.EfileBack'. -/
def efileBackCard : Claim7 := { stood := { row := efileBackRow, standIns := [], harness := (true, "8de0581226e97bd0cfbc7363efc2e0d4cd84a879723d3ae3e3227ffb225792c1"), looks := true }, kinds := [], alts := [], laidByText := true, laidKinds := [.data, .pinned], laidTests := true, laidLooks := .later }
def EfileBackCardSaid : Prop := Claim7.holds Tryd.pinned (.plain (OpenSpec.ofChange efileBackSpec)) efileBackCard

/-- THE TIED CARD OF 'exciselaw25.EfilePacks'. -/
def efilePacksCard : Claim7 := { stood := { row := efilePacksRow, standIns := [], harness := (true, "8de0581226e97bd0cfbc7363efc2e0d4cd84a879723d3ae3e3227ffb225792c1"), looks := true }, kinds := [], alts := [], laidByText := true, laidKinds := [.data, .pinned], laidTests := true, laidLooks := .later }
def EfilePacksCardSaid : Prop := Claim7.holds Tryd.pinned (.plain (OpenSpec.ofChange efilePacksSpec)) efilePacksCard

/-- THE SECOND FORM's CARD OF 'exciselaw25.EfileBack'. -/
def efileBackUptoCard : Claim7 := { stood := { row := efileBackUptoRow, standIns := [], harness := (true, "8de0581226e97bd0cfbc7363efc2e0d4cd84a879723d3ae3e3227ffb225792c1"), looks := true }, kinds := [], alts := [], laidByText := true, laidKinds := [.data, .pinned], laidTests := true, laidLooks := .later }
def EfileBackUptoCardSaid : Prop := Claim7.holds Tryd.pinned (.plain (OpenSpec.upto efileBackSpec)) efileBackUptoCard

/-- THE SECOND FORM's CARD OF 'exciselaw25.EfilePacks'. -/
def efilePacksUptoCard : Claim7 := { stood := { row := efilePacksUptoRow, standIns := [], harness := (true, "8de0581226e97bd0cfbc7363efc2e0d4cd84a879723d3ae3e3227ffb225792c1"), looks := true }, kinds := [], alts := [], laidByText := true, laidKinds := [.data, .pinned], laidTests := true, laidLooks := .later }
def EfilePacksUptoCardSaid : Prop := Claim7.holds Tryd.pinned (.plain (OpenSpec.upto efilePacksSpec)) efilePacksUptoCard
end Rows
end Go.Proofs.YtndfjapojjinaaaDoor
