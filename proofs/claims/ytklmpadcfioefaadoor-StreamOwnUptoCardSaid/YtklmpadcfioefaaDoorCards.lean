/-
  DERIVED. GIVEN WITH THE SEED: THE CARDS: each row of YtklmpadcfioefaaDoorRows.lean that lists a variable, with what it lists TIED to the program's text (the seventh form; the later family's looks); each row that meets fmt, with fmt's text TOLD by the authors' own Lean function (tested against real Go, not proved from fmt's source: count such statements apart). THE CARD IS WHAT COUNTS. Prove the row's statement (the work); the ties are given (YtklmpadcfioefaaDoorTie.lean); close each card by the builder's one call (the guide's Derived/Test/ToyasCard.lean, 'card_holds'). Laid BY PROGRAM, IN A SANDBOX (cutbox-door.mjs). By AI agents, Wed Nov 11 2026. No macro, syntax, notation, axiom, sorry.
-/
import Derived.Test.YtklmpadcfioefaaDoorRows
import GoSem.ClaimSeven
namespace Go.Proofs.YtklmpadcfioefaaDoor
namespace Rows

/-- THE TIED CARD OF 'turnpikelaw24.StreamSmuggles'. -/
def streamSmugglesCard : Claim7 := { stood := { row := streamSmugglesRow, standIns := [], harness := (true, "5748aefb8a65f1ac7c1bbeeda721bcb7c8025a3cb16ea331181e4f3cefecc5d3"), looks := false }, kinds := [], alts := [], laidByText := true, laidKinds := [.data, .pinned], laidTests := true, laidLooks := .later }
def StreamSmugglesCardSaid : Prop := Claim7.holds Tryd.pinned (.plain (OpenSpec.ofChange streamSmugglesSpec)) streamSmugglesCard

/-- THE TIED CARD OF 'turnpikelaw24.StreamPieces'. -/
def streamPiecesCard : Claim7 := { stood := { row := streamPiecesRow, standIns := [], harness := (true, "5748aefb8a65f1ac7c1bbeeda721bcb7c8025a3cb16ea331181e4f3cefecc5d3"), looks := false }, kinds := [], alts := [], laidByText := true, laidKinds := [.data, .pinned], laidTests := true, laidLooks := .later }
def StreamPiecesCardSaid : Prop := Claim7.holds Tryd.pinned (.plain (OpenSpec.ofChange streamPiecesSpec)) streamPiecesCard

/-- THE TIED CARD OF 'turnpikelaw24.StreamOwn'. -/
def streamOwnCard : Claim7 := { stood := { row := streamOwnRow, standIns := [], harness := (true, "5748aefb8a65f1ac7c1bbeeda721bcb7c8025a3cb16ea331181e4f3cefecc5d3"), looks := false }, kinds := [], alts := [], laidByText := true, laidKinds := [.data, .pinned], laidTests := true, laidLooks := .later }
def StreamOwnCardSaid : Prop := Claim7.holds Tryd.pinned (.plain (OpenSpec.ofChange streamOwnSpec)) streamOwnCard

/-- THE SECOND FORM's CARD OF 'turnpikelaw24.StreamSmuggles'. -/
def streamSmugglesUptoCard : Claim7 := { stood := { row := streamSmugglesUptoRow, standIns := [], harness := (true, "5748aefb8a65f1ac7c1bbeeda721bcb7c8025a3cb16ea331181e4f3cefecc5d3"), looks := false }, kinds := [], alts := [], laidByText := true, laidKinds := [.data, .pinned], laidTests := true, laidLooks := .later }
def StreamSmugglesUptoCardSaid : Prop := Claim7.holds Tryd.pinned (.plain (OpenSpec.upto streamSmugglesSpec)) streamSmugglesUptoCard

/-- THE SECOND FORM's CARD OF 'turnpikelaw24.StreamPieces'. -/
def streamPiecesUptoCard : Claim7 := { stood := { row := streamPiecesUptoRow, standIns := [], harness := (true, "5748aefb8a65f1ac7c1bbeeda721bcb7c8025a3cb16ea331181e4f3cefecc5d3"), looks := false }, kinds := [], alts := [], laidByText := true, laidKinds := [.data, .pinned], laidTests := true, laidLooks := .later }
def StreamPiecesUptoCardSaid : Prop := Claim7.holds Tryd.pinned (.plain (OpenSpec.upto streamPiecesSpec)) streamPiecesUptoCard

/-- THE SECOND FORM's CARD OF 'turnpikelaw24.StreamOwn'. -/
def streamOwnUptoCard : Claim7 := { stood := { row := streamOwnUptoRow, standIns := [], harness := (true, "5748aefb8a65f1ac7c1bbeeda721bcb7c8025a3cb16ea331181e4f3cefecc5d3"), looks := false }, kinds := [], alts := [], laidByText := true, laidKinds := [.data, .pinned], laidTests := true, laidLooks := .later }
def StreamOwnUptoCardSaid : Prop := Claim7.holds Tryd.pinned (.plain (OpenSpec.upto streamOwnSpec)) streamOwnUptoCard
end Rows
end Go.Proofs.YtklmpadcfioefaaDoor
