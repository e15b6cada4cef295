/-
  DERIVED. GIVEN WITH THE SEED: THE CARDS: each row of YtklmpadcfioefaaGreatDoorRows.lean that lists a variable, with what it lists TIED to the program's text (the seventh form; the later family's looks); each row that meets fmt, with fmt's text TOLD by the authors' own Lean function (tested against real Go, not proved from fmt's source: count such statements apart). THE CARD IS WHAT COUNTS. Prove the row's statement (the work); the ties are given (YtklmpadcfioefaaGreatDoorTie.lean); close each card by the builder's one call (the guide's Derived/Test/ToyasCard.lean, 'card_holds'). Laid BY PROGRAM, IN A SANDBOX (cutbox-door.mjs). By AI agents, Wed Nov 11 2026. No macro, syntax, notation, axiom, sorry.
-/
import Derived.Test.YtklmpadcfioefaaGreatDoorRows
import GoSem.ClaimSeven
namespace Go.Proofs.YtklmpadcfioefaaGreatDoor
namespace Rows

/-- THE TIED CARD OF 'turnpikelaw24.StreamReads'. -/
def streamReadsCard : Claim7 := { stood := { row := streamReadsRow, standIns := [], harness := (true, "085a0b6e58422eb0df7e5f9ac6f5ace9b9d85f5908d7d57a4cf9b297800333c9"), looks := false }, kinds := [], alts := [], laidByText := true, laidKinds := [.data, .pinned], laidTests := true, laidLooks := .later }
def StreamReadsCardSaid : Prop := Claim7.holds Tryz.pinned (.plain (OpenSpec.ofChange streamReadsSpec)) streamReadsCard

/-- THE TIED CARD OF 'turnpikelaw24.StreamBack'. -/
def streamBackCard : Claim7 := { stood := { row := streamBackRow, standIns := [], harness := (true, "085a0b6e58422eb0df7e5f9ac6f5ace9b9d85f5908d7d57a4cf9b297800333c9"), looks := false }, kinds := [], alts := [], laidByText := true, laidKinds := [.data, .data, .data, .data, .pinned], laidTests := true, laidLooks := .later }
def StreamBackCardSaid : Prop := Claim7.holds Tryz.pinned (.plain (OpenSpec.ofChange streamBackSpec)) streamBackCard

/-- THE TIED CARD OF 'turnpikelaw25.RewriteLocal'. -/
def rewriteLocalCard : Claim7 := { stood := { row := rewriteLocalRow, standIns := [], harness := (true, "085a0b6e58422eb0df7e5f9ac6f5ace9b9d85f5908d7d57a4cf9b297800333c9"), looks := false }, kinds := [], alts := [], laidByText := true, laidKinds := [.data, .data, .data, .data, .pinned], laidTests := true, laidLooks := .later }
def RewriteLocalCardSaid : Prop := Claim7.holds Tryz.pinned (.plain (OpenSpec.ofChange rewriteLocalSpec)) rewriteLocalCard

/-- THE SECOND FORM's CARD OF 'turnpikelaw24.StreamReads'. -/
def streamReadsUptoCard : Claim7 := { stood := { row := streamReadsUptoRow, standIns := [], harness := (true, "085a0b6e58422eb0df7e5f9ac6f5ace9b9d85f5908d7d57a4cf9b297800333c9"), looks := false }, kinds := [], alts := [], laidByText := true, laidKinds := [.data, .pinned], laidTests := true, laidLooks := .later }
def StreamReadsUptoCardSaid : Prop := Claim7.holds Tryz.pinned (.plain (OpenSpec.upto streamReadsSpec)) streamReadsUptoCard

/-- THE SECOND FORM's CARD OF 'turnpikelaw24.StreamBack'. -/
def streamBackUptoCard : Claim7 := { stood := { row := streamBackUptoRow, standIns := [], harness := (true, "085a0b6e58422eb0df7e5f9ac6f5ace9b9d85f5908d7d57a4cf9b297800333c9"), looks := false }, kinds := [], alts := [], laidByText := true, laidKinds := [.data, .data, .data, .data, .pinned], laidTests := true, laidLooks := .later }
def StreamBackUptoCardSaid : Prop := Claim7.holds Tryz.pinned (.plain (OpenSpec.upto streamBackSpec)) streamBackUptoCard

/-- THE SECOND FORM's CARD OF 'turnpikelaw25.RewriteLocal'. -/
def rewriteLocalUptoCard : Claim7 := { stood := { row := rewriteLocalUptoRow, standIns := [], harness := (true, "085a0b6e58422eb0df7e5f9ac6f5ace9b9d85f5908d7d57a4cf9b297800333c9"), looks := false }, kinds := [], alts := [], laidByText := true, laidKinds := [.data, .data, .data, .data, .pinned], laidTests := true, laidLooks := .later }
def RewriteLocalUptoCardSaid : Prop := Claim7.holds Tryz.pinned (.plain (OpenSpec.upto rewriteLocalSpec)) rewriteLocalUptoCard
end Rows
end Go.Proofs.YtklmpadcfioefaaGreatDoor
