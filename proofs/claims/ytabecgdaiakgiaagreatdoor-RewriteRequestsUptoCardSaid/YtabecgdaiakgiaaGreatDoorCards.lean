/-
  DERIVED. GIVEN WITH THE SEED: THE CARDS: each row of YtabecgdaiakgiaaGreatDoorRows.lean that lists a variable, with what it lists TIED to the program's text (the seventh form; the later family's looks); each row that meets fmt, with fmt's text TOLD by the authors' own Lean function (tested against real Go, not proved from fmt's source: count such statements apart). THE CARD IS WHAT COUNTS. Prove the row's statement (the work); the ties are given (YtabecgdaiakgiaaGreatDoorTie.lean); close each card by the builder's one call (the guide's Derived/Test/ToyasCard.lean, 'card_holds'). Laid BY PROGRAM, IN A SANDBOX (cutbox-door.mjs). By AI agents, Wed Nov 11 2026. No macro, syntax, notation, axiom, sorry.
-/
import Derived.Test.YtabecgdaiakgiaaGreatDoorRows
import GoSem.ClaimSeven
namespace Go.Proofs.YtabecgdaiakgiaaGreatDoor
namespace Rows

/-- THE TIED CARD OF 'turnpikelaw25.RewriteResponses'. -/
def rewriteResponsesCard : Claim7 := { stood := { row := rewriteResponsesRow, standIns := [], harness := (true, "7cf928d5e6e0c4b6d55faf993097860b1a7d653e2113553f9da1bce610901c28"), looks := false }, kinds := [], alts := [], laidByText := true, laidKinds := [.data, .data, .data, .data, .pinned], laidTests := true, laidLooks := .later }
def RewriteResponsesCardSaid : Prop := Claim7.holds Tryz.pinned (.plain (OpenSpec.ofChange rewriteResponsesSpec)) rewriteResponsesCard

/-- THE TIED CARD OF 'turnpikelaw25.RewriteRequests'. -/
def rewriteRequestsCard : Claim7 := { stood := { row := rewriteRequestsRow, standIns := [], harness := (true, "7cf928d5e6e0c4b6d55faf993097860b1a7d653e2113553f9da1bce610901c28"), looks := false }, kinds := [], alts := [], laidByText := true, laidKinds := [.data, .data, .data, .data, .pinned], laidTests := true, laidLooks := .later }
def RewriteRequestsCardSaid : Prop := Claim7.holds Tryz.pinned (.plain (OpenSpec.ofChange rewriteRequestsSpec)) rewriteRequestsCard

/-- THE TIED CARD OF 'turnpikelaw25.RewriteLocal'. -/
def rewriteLocalCard : Claim7 := { stood := { row := rewriteLocalRow, standIns := [], harness := (true, "7cf928d5e6e0c4b6d55faf993097860b1a7d653e2113553f9da1bce610901c28"), looks := false }, kinds := [], alts := [], laidByText := true, laidKinds := [.data, .data, .data, .data, .pinned], laidTests := true, laidLooks := .later }
def RewriteLocalCardSaid : Prop := Claim7.holds Tryz.pinned (.plain (OpenSpec.ofChange rewriteLocalSpec)) rewriteLocalCard

/-- THE SECOND FORM's CARD OF 'turnpikelaw25.RewriteResponses'. -/
def rewriteResponsesUptoCard : Claim7 := { stood := { row := rewriteResponsesUptoRow, standIns := [], harness := (true, "7cf928d5e6e0c4b6d55faf993097860b1a7d653e2113553f9da1bce610901c28"), looks := false }, kinds := [], alts := [], laidByText := true, laidKinds := [.data, .data, .data, .data, .pinned], laidTests := true, laidLooks := .later }
def RewriteResponsesUptoCardSaid : Prop := Claim7.holds Tryz.pinned (.plain (OpenSpec.upto rewriteResponsesSpec)) rewriteResponsesUptoCard

/-- THE SECOND FORM's CARD OF 'turnpikelaw25.RewriteRequests'. -/
def rewriteRequestsUptoCard : Claim7 := { stood := { row := rewriteRequestsUptoRow, standIns := [], harness := (true, "7cf928d5e6e0c4b6d55faf993097860b1a7d653e2113553f9da1bce610901c28"), looks := false }, kinds := [], alts := [], laidByText := true, laidKinds := [.data, .data, .data, .data, .pinned], laidTests := true, laidLooks := .later }
def RewriteRequestsUptoCardSaid : Prop := Claim7.holds Tryz.pinned (.plain (OpenSpec.upto rewriteRequestsSpec)) rewriteRequestsUptoCard

/-- THE SECOND FORM's CARD OF 'turnpikelaw25.RewriteLocal'. -/
def rewriteLocalUptoCard : Claim7 := { stood := { row := rewriteLocalUptoRow, standIns := [], harness := (true, "7cf928d5e6e0c4b6d55faf993097860b1a7d653e2113553f9da1bce610901c28"), looks := false }, kinds := [], alts := [], laidByText := true, laidKinds := [.data, .data, .data, .data, .pinned], laidTests := true, laidLooks := .later }
def RewriteLocalUptoCardSaid : Prop := Claim7.holds Tryz.pinned (.plain (OpenSpec.upto rewriteLocalSpec)) rewriteLocalUptoCard
end Rows
end Go.Proofs.YtabecgdaiakgiaaGreatDoor
