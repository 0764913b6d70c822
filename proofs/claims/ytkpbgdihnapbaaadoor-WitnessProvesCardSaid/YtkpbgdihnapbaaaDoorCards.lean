/-
  DERIVED. GIVEN WITH THE SEED: THE CARDS: each row of YtkpbgdihnapbaaaDoorRows.lean that lists a variable, with what it lists TIED to the program's text (the seventh form; the later family's looks); each row that meets fmt, with fmt's text TOLD by the authors' own Lean function (tested against real Go, not proved from fmt's source: count such statements apart). THE CARD IS WHAT COUNTS. Prove the row's statement (the work); the ties are given (YtkpbgdihnapbaaaDoorTie.lean); close each card by the builder's one call (the guide's Derived/Test/ToyasCard.lean, 'card_holds'). Laid BY PROGRAM, IN A SANDBOX (cutbox-door.mjs). By AI agents, Wed Nov 11 2026. No macro, syntax, notation, axiom, sorry.
-/
import Derived.Test.YtkpbgdihnapbaaaDoorRows
import GoSem.ClaimSeven
namespace Go.Proofs.YtkpbgdihnapbaaaDoor
namespace Rows

/-- THE TIED CARD OF 'logjamlaw37.WitnessProves'. -/
def witnessProvesCard : Claim7 := { stood := { row := witnessProvesRow, standIns := [], harness := (true, "e14e19bd29cd81c5ab088b1b1177d735cd41743123ee02cc6fae0c675d53cbc9"), looks := false }, kinds := [], alts := [], laidByText := true, laidKinds := [.data], laidTests := true, laidLooks := .later }
def WitnessProvesCardSaid : Prop := Claim7.holds Tryd.pinned (.plain (OpenSpec.ofChange witnessProvesSpec)) witnessProvesCard

/-- THE SECOND FORM's CARD OF 'logjamlaw37.WitnessProves'. -/
def witnessProvesUptoCard : Claim7 := { stood := { row := witnessProvesUptoRow, standIns := [], harness := (true, "e14e19bd29cd81c5ab088b1b1177d735cd41743123ee02cc6fae0c675d53cbc9"), looks := false }, kinds := [], alts := [], laidByText := true, laidKinds := [.data], laidTests := true, laidLooks := .later }
def WitnessProvesUptoCardSaid : Prop := Claim7.holds Tryd.pinned (.plain (OpenSpec.upto witnessProvesSpec)) witnessProvesUptoCard
end Rows
end Go.Proofs.YtkpbgdihnapbaaaDoor
