/-
  DERIVED. GIVEN WITH THE SEED: THE CARDS: each row of YtfkkjhfncmfahaaDoorRows.lean that lists a variable, with what it lists TIED to the program's text (the seventh form; the later family's looks); each row that meets fmt, with fmt's text TOLD by the authors' own Lean function (tested against real Go, not proved from fmt's source: count such statements apart). THE CARD IS WHAT COUNTS. Prove the row's statement (the work); the ties are given (YtfkkjhfncmfahaaDoorTie.lean); close each card by the builder's one call (the guide's Derived/Test/ToyasCard.lean, 'card_holds'). Laid BY PROGRAM, IN A SANDBOX (cutbox-door.mjs). By AI agents, Wed Nov 11 2026. No macro, syntax, notation, axiom, sorry.
-/
import Derived.Test.YtfkkjhfncmfahaaDoorRows
import GoSem.ClaimSeven
namespace Go.Proofs.YtfkkjhfncmfahaaDoor
namespace Rows

/-- THE TIED CARD OF 'drawbridgelaw17.IpPieces'. -/
def ipPiecesCard : Claim7 := { stood := { row := ipPiecesRow, standIns := [], harness := (true, "93566d7be84e9bc45b71b8910876dc5d5cdcc008c361b56311ac8a75bddc1e63"), looks := true }, kinds := [], alts := [], laidByText := true, laidKinds := [.handle], laidTests := true, laidLooks := .later }
def IpPiecesCardSaid : Prop := Claim7.holds Tryd.pinned (.plain (OpenSpec.ofChange ipPiecesSpec)) ipPiecesCard

/-- THE TIED CARD OF 'drawbridgelaw17.IpEchoes'. -/
def ipEchoesCard : Claim7 := { stood := { row := ipEchoesRow, standIns := [], harness := (true, "93566d7be84e9bc45b71b8910876dc5d5cdcc008c361b56311ac8a75bddc1e63"), looks := true }, kinds := [], alts := [], laidByText := true, laidKinds := [.handle], laidTests := true, laidLooks := .later }
def IpEchoesCardSaid : Prop := Claim7.holds Tryd.pinned (.plain (OpenSpec.ofChange ipEchoesSpec)) ipEchoesCard

/-- THE SECOND FORM's CARD OF 'drawbridgelaw17.IpPieces'. -/
def ipPiecesUptoCard : Claim7 := { stood := { row := ipPiecesUptoRow, standIns := [], harness := (true, "93566d7be84e9bc45b71b8910876dc5d5cdcc008c361b56311ac8a75bddc1e63"), looks := true }, kinds := [], alts := [], laidByText := true, laidKinds := [.handle], laidTests := true, laidLooks := .later }
def IpPiecesUptoCardSaid : Prop := Claim7.holds Tryd.pinned (.plain (OpenSpec.upto ipPiecesSpec)) ipPiecesUptoCard

/-- THE SECOND FORM's CARD OF 'drawbridgelaw17.IpEchoes'. -/
def ipEchoesUptoCard : Claim7 := { stood := { row := ipEchoesUptoRow, standIns := [], harness := (true, "93566d7be84e9bc45b71b8910876dc5d5cdcc008c361b56311ac8a75bddc1e63"), looks := true }, kinds := [], alts := [], laidByText := true, laidKinds := [.handle], laidTests := true, laidLooks := .later }
def IpEchoesUptoCardSaid : Prop := Claim7.holds Tryd.pinned (.plain (OpenSpec.upto ipEchoesSpec)) ipEchoesUptoCard
end Rows
end Go.Proofs.YtfkkjhfncmfahaaDoor
