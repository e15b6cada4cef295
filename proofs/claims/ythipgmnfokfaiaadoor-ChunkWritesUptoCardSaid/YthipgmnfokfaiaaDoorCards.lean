/-
  DERIVED. GIVEN WITH THE SEED: THE CARDS: each row of YthipgmnfokfaiaaDoorRows.lean that lists a variable, with what it lists TIED to the program's text (the seventh form; the later family's looks); each row that meets fmt, with fmt's text TOLD by the authors' own Lean function (tested against real Go, not proved from fmt's source: count such statements apart). THE CARD IS WHAT COUNTS. Prove the row's statement (the work); the ties are given (YthipgmnfokfaiaaDoorTie.lean); close each card by the builder's one call (the guide's Derived/Test/ToyasCard.lean, 'card_holds'). Laid BY PROGRAM, IN A SANDBOX (cutbox-door.mjs). By AI agents, Wed Nov 11 2026. No macro, syntax, notation, axiom, sorry.
-/
import Derived.Test.YthipgmnfokfaiaaDoorRows
import GoSem.ClaimSeven
namespace Go.Proofs.YthipgmnfokfaiaaDoor
namespace Rows

/-- THE TIED CARD OF 'turnpikelaw22.HeadAsks'. -/
def headAsksCard : Claim7 := { stood := { row := headAsksRow, standIns := [], harness := (true, "f82129e1a19c00b9d92acc712e69836a7e4e819a7e86ce3b8509ea4e0b3ae0b6"), looks := false }, kinds := [], alts := [], laidByText := true, laidKinds := [.data, .pinned], laidTests := true, laidLooks := .later }
def HeadAsksCardSaid : Prop := Claim7.holds Tryd.pinned (.plain (OpenSpec.ofChange headAsksSpec)) headAsksCard

/-- THE TIED CARD OF 'turnpikelaw23.ChunkFeeds'. -/
def chunkFeedsCard : Claim7 := { stood := { row := chunkFeedsRow, standIns := [], harness := (true, "f82129e1a19c00b9d92acc712e69836a7e4e819a7e86ce3b8509ea4e0b3ae0b6"), looks := false }, kinds := [], alts := [], laidByText := true, laidKinds := [.data, .pinned], laidTests := true, laidLooks := .later }
def ChunkFeedsCardSaid : Prop := Claim7.holds Tryd.pinned (.plain (OpenSpec.ofChange chunkFeedsSpec)) chunkFeedsCard

/-- THE TIED CARD OF 'turnpikelaw23.ChunkReads'. -/
def chunkReadsCard : Claim7 := { stood := { row := chunkReadsRow, standIns := [], harness := (true, "f82129e1a19c00b9d92acc712e69836a7e4e819a7e86ce3b8509ea4e0b3ae0b6"), looks := false }, kinds := [], alts := [], laidByText := true, laidKinds := [.data, .pinned], laidTests := true, laidLooks := .later }
def ChunkReadsCardSaid : Prop := Claim7.holds Tryd.pinned (.plain (OpenSpec.ofChange chunkReadsSpec)) chunkReadsCard

/-- THE TIED CARD OF 'turnpikelaw22.HeadReads'. -/
def headReadsCard : Claim7 := { stood := { row := headReadsRow, standIns := [], harness := (true, "f82129e1a19c00b9d92acc712e69836a7e4e819a7e86ce3b8509ea4e0b3ae0b6"), looks := false }, kinds := [], alts := [], laidByText := true, laidKinds := [.data, .pinned], laidTests := true, laidLooks := .later }
def HeadReadsCardSaid : Prop := Claim7.holds Tryd.pinned (.plain (OpenSpec.ofChange headReadsSpec)) headReadsCard

/-- THE TIED CARD OF 'turnpikelaw22.HeadSmuggles'. -/
def headSmugglesCard : Claim7 := { stood := { row := headSmugglesRow, standIns := [], harness := (true, "f82129e1a19c00b9d92acc712e69836a7e4e819a7e86ce3b8509ea4e0b3ae0b6"), looks := false }, kinds := [], alts := [], laidByText := true, laidKinds := [.data, .pinned], laidTests := true, laidLooks := .later }
def HeadSmugglesCardSaid : Prop := Claim7.holds Tryd.pinned (.plain (OpenSpec.ofChange headSmugglesSpec)) headSmugglesCard

/-- THE TIED CARD OF 'turnpikelaw23.ChunkOwn'. -/
def chunkOwnCard : Claim7 := { stood := { row := chunkOwnRow, standIns := [], harness := (true, "f82129e1a19c00b9d92acc712e69836a7e4e819a7e86ce3b8509ea4e0b3ae0b6"), looks := false }, kinds := [], alts := [], laidByText := true, laidKinds := [.data, .data, .data, .data, .pinned], laidTests := true, laidLooks := .later }
def ChunkOwnCardSaid : Prop := Claim7.holds Tryd.pinned (.plain (OpenSpec.ofChange chunkOwnSpec)) chunkOwnCard

/-- THE TIED CARD OF 'turnpikelaw23.ChunkPieces'. -/
def chunkPiecesCard : Claim7 := { stood := { row := chunkPiecesRow, standIns := [], harness := (true, "f82129e1a19c00b9d92acc712e69836a7e4e819a7e86ce3b8509ea4e0b3ae0b6"), looks := false }, kinds := [], alts := [], laidByText := true, laidKinds := [.data, .data, .data, .data, .pinned], laidTests := true, laidLooks := .later }
def ChunkPiecesCardSaid : Prop := Claim7.holds Tryd.pinned (.plain (OpenSpec.ofChange chunkPiecesSpec)) chunkPiecesCard

/-- THE TIED CARD OF 'turnpikelaw23.ChunkWrites'. -/
def chunkWritesCard : Claim7 := { stood := { row := chunkWritesRow, standIns := [], harness := (true, "f82129e1a19c00b9d92acc712e69836a7e4e819a7e86ce3b8509ea4e0b3ae0b6"), looks := false }, kinds := [], alts := [], laidByText := true, laidKinds := [.data, .data, .data, .data, .pinned], laidTests := true, laidLooks := .later }
def ChunkWritesCardSaid : Prop := Claim7.holds Tryd.pinned (.plain (OpenSpec.ofChange chunkWritesSpec)) chunkWritesCard

/-- THE TIED CARD OF 'turnpikelaw23.ChunkBack'. -/
def chunkBackCard : Claim7 := { stood := { row := chunkBackRow, standIns := [], harness := (true, "f82129e1a19c00b9d92acc712e69836a7e4e819a7e86ce3b8509ea4e0b3ae0b6"), looks := false }, kinds := [], alts := [], laidByText := true, laidKinds := [.data, .data, .data, .data, .pinned], laidTests := true, laidLooks := .later }
def ChunkBackCardSaid : Prop := Claim7.holds Tryd.pinned (.plain (OpenSpec.ofChange chunkBackSpec)) chunkBackCard

/-- THE TIED CARD OF 'turnpikelaw23.ChunkCut'. -/
def chunkCutCard : Claim7 := { stood := { row := chunkCutRow, standIns := [], harness := (true, "f82129e1a19c00b9d92acc712e69836a7e4e819a7e86ce3b8509ea4e0b3ae0b6"), looks := false }, kinds := [], alts := [], laidByText := true, laidKinds := [.data, .data, .data, .data, .pinned], laidTests := true, laidLooks := .later }
def ChunkCutCardSaid : Prop := Claim7.holds Tryd.pinned (.plain (OpenSpec.ofChange chunkCutSpec)) chunkCutCard

/-- THE TIED CARD OF 'turnpikelaw22.HeadWrites'. -/
def headWritesCard : Claim7 := { stood := { row := headWritesRow, standIns := [], harness := (true, "f82129e1a19c00b9d92acc712e69836a7e4e819a7e86ce3b8509ea4e0b3ae0b6"), looks := false }, kinds := [], alts := [], laidByText := true, laidKinds := [.data, .data, .data, .data, .pinned], laidTests := true, laidLooks := .later }
def HeadWritesCardSaid : Prop := Claim7.holds Tryd.pinned (.plain (OpenSpec.ofChange headWritesSpec)) headWritesCard

/-- THE TIED CARD OF 'turnpikelaw22.HeadBack'. -/
def headBackCard : Claim7 := { stood := { row := headBackRow, standIns := [], harness := (true, "f82129e1a19c00b9d92acc712e69836a7e4e819a7e86ce3b8509ea4e0b3ae0b6"), looks := false }, kinds := [], alts := [], laidByText := true, laidKinds := [.data, .data, .data, .data, .pinned], laidTests := true, laidLooks := .later }
def HeadBackCardSaid : Prop := Claim7.holds Tryd.pinned (.plain (OpenSpec.ofChange headBackSpec)) headBackCard

/-- THE TIED CARD OF 'turnpikelaw22.HeadOne'. -/
def headOneCard : Claim7 := { stood := { row := headOneRow, standIns := [], harness := (true, "f82129e1a19c00b9d92acc712e69836a7e4e819a7e86ce3b8509ea4e0b3ae0b6"), looks := false }, kinds := [], alts := [], laidByText := true, laidKinds := [.data, .data, .data, .data, .pinned], laidTests := true, laidLooks := .later }
def HeadOneCardSaid : Prop := Claim7.holds Tryd.pinned (.plain (OpenSpec.ofChange headOneSpec)) headOneCard

/-- THE TIED CARD OF 'turnpikelaw22.HeadOwn'. -/
def headOwnCard : Claim7 := { stood := { row := headOwnRow, standIns := [], harness := (true, "f82129e1a19c00b9d92acc712e69836a7e4e819a7e86ce3b8509ea4e0b3ae0b6"), looks := false }, kinds := [], alts := [], laidByText := true, laidKinds := [.data, .data, .data, .data, .pinned], laidTests := true, laidLooks := .later }
def HeadOwnCardSaid : Prop := Claim7.holds Tryd.pinned (.plain (OpenSpec.ofChange headOwnSpec)) headOwnCard

/-- THE SECOND FORM's CARD OF 'turnpikelaw22.HeadAsks'. -/
def headAsksUptoCard : Claim7 := { stood := { row := headAsksUptoRow, standIns := [], harness := (true, "f82129e1a19c00b9d92acc712e69836a7e4e819a7e86ce3b8509ea4e0b3ae0b6"), looks := false }, kinds := [], alts := [], laidByText := true, laidKinds := [.data, .pinned], laidTests := true, laidLooks := .later }
def HeadAsksUptoCardSaid : Prop := Claim7.holds Tryd.pinned (.plain (OpenSpec.upto headAsksSpec)) headAsksUptoCard

/-- THE SECOND FORM's CARD OF 'turnpikelaw23.ChunkFeeds'. -/
def chunkFeedsUptoCard : Claim7 := { stood := { row := chunkFeedsUptoRow, standIns := [], harness := (true, "f82129e1a19c00b9d92acc712e69836a7e4e819a7e86ce3b8509ea4e0b3ae0b6"), looks := false }, kinds := [], alts := [], laidByText := true, laidKinds := [.data, .pinned], laidTests := true, laidLooks := .later }
def ChunkFeedsUptoCardSaid : Prop := Claim7.holds Tryd.pinned (.plain (OpenSpec.upto chunkFeedsSpec)) chunkFeedsUptoCard

/-- THE SECOND FORM's CARD OF 'turnpikelaw23.ChunkReads'. -/
def chunkReadsUptoCard : Claim7 := { stood := { row := chunkReadsUptoRow, standIns := [], harness := (true, "f82129e1a19c00b9d92acc712e69836a7e4e819a7e86ce3b8509ea4e0b3ae0b6"), looks := false }, kinds := [], alts := [], laidByText := true, laidKinds := [.data, .pinned], laidTests := true, laidLooks := .later }
def ChunkReadsUptoCardSaid : Prop := Claim7.holds Tryd.pinned (.plain (OpenSpec.upto chunkReadsSpec)) chunkReadsUptoCard

/-- THE SECOND FORM's CARD OF 'turnpikelaw22.HeadReads'. -/
def headReadsUptoCard : Claim7 := { stood := { row := headReadsUptoRow, standIns := [], harness := (true, "f82129e1a19c00b9d92acc712e69836a7e4e819a7e86ce3b8509ea4e0b3ae0b6"), looks := false }, kinds := [], alts := [], laidByText := true, laidKinds := [.data, .pinned], laidTests := true, laidLooks := .later }
def HeadReadsUptoCardSaid : Prop := Claim7.holds Tryd.pinned (.plain (OpenSpec.upto headReadsSpec)) headReadsUptoCard

/-- THE SECOND FORM's CARD OF 'turnpikelaw22.HeadSmuggles'. -/
def headSmugglesUptoCard : Claim7 := { stood := { row := headSmugglesUptoRow, standIns := [], harness := (true, "f82129e1a19c00b9d92acc712e69836a7e4e819a7e86ce3b8509ea4e0b3ae0b6"), looks := false }, kinds := [], alts := [], laidByText := true, laidKinds := [.data, .pinned], laidTests := true, laidLooks := .later }
def HeadSmugglesUptoCardSaid : Prop := Claim7.holds Tryd.pinned (.plain (OpenSpec.upto headSmugglesSpec)) headSmugglesUptoCard

/-- THE SECOND FORM's CARD OF 'turnpikelaw23.ChunkOwn'. -/
def chunkOwnUptoCard : Claim7 := { stood := { row := chunkOwnUptoRow, standIns := [], harness := (true, "f82129e1a19c00b9d92acc712e69836a7e4e819a7e86ce3b8509ea4e0b3ae0b6"), looks := false }, kinds := [], alts := [], laidByText := true, laidKinds := [.data, .data, .data, .data, .pinned], laidTests := true, laidLooks := .later }
def ChunkOwnUptoCardSaid : Prop := Claim7.holds Tryd.pinned (.plain (OpenSpec.upto chunkOwnSpec)) chunkOwnUptoCard

/-- THE SECOND FORM's CARD OF 'turnpikelaw23.ChunkPieces'. -/
def chunkPiecesUptoCard : Claim7 := { stood := { row := chunkPiecesUptoRow, standIns := [], harness := (true, "f82129e1a19c00b9d92acc712e69836a7e4e819a7e86ce3b8509ea4e0b3ae0b6"), looks := false }, kinds := [], alts := [], laidByText := true, laidKinds := [.data, .data, .data, .data, .pinned], laidTests := true, laidLooks := .later }
def ChunkPiecesUptoCardSaid : Prop := Claim7.holds Tryd.pinned (.plain (OpenSpec.upto chunkPiecesSpec)) chunkPiecesUptoCard

/-- THE SECOND FORM's CARD OF 'turnpikelaw23.ChunkWrites'. -/
def chunkWritesUptoCard : Claim7 := { stood := { row := chunkWritesUptoRow, standIns := [], harness := (true, "f82129e1a19c00b9d92acc712e69836a7e4e819a7e86ce3b8509ea4e0b3ae0b6"), looks := false }, kinds := [], alts := [], laidByText := true, laidKinds := [.data, .data, .data, .data, .pinned], laidTests := true, laidLooks := .later }
def ChunkWritesUptoCardSaid : Prop := Claim7.holds Tryd.pinned (.plain (OpenSpec.upto chunkWritesSpec)) chunkWritesUptoCard

/-- THE SECOND FORM's CARD OF 'turnpikelaw23.ChunkBack'. -/
def chunkBackUptoCard : Claim7 := { stood := { row := chunkBackUptoRow, standIns := [], harness := (true, "f82129e1a19c00b9d92acc712e69836a7e4e819a7e86ce3b8509ea4e0b3ae0b6"), looks := false }, kinds := [], alts := [], laidByText := true, laidKinds := [.data, .data, .data, .data, .pinned], laidTests := true, laidLooks := .later }
def ChunkBackUptoCardSaid : Prop := Claim7.holds Tryd.pinned (.plain (OpenSpec.upto chunkBackSpec)) chunkBackUptoCard

/-- THE SECOND FORM's CARD OF 'turnpikelaw23.ChunkCut'. -/
def chunkCutUptoCard : Claim7 := { stood := { row := chunkCutUptoRow, standIns := [], harness := (true, "f82129e1a19c00b9d92acc712e69836a7e4e819a7e86ce3b8509ea4e0b3ae0b6"), looks := false }, kinds := [], alts := [], laidByText := true, laidKinds := [.data, .data, .data, .data, .pinned], laidTests := true, laidLooks := .later }
def ChunkCutUptoCardSaid : Prop := Claim7.holds Tryd.pinned (.plain (OpenSpec.upto chunkCutSpec)) chunkCutUptoCard

/-- THE SECOND FORM's CARD OF 'turnpikelaw22.HeadWrites'. -/
def headWritesUptoCard : Claim7 := { stood := { row := headWritesUptoRow, standIns := [], harness := (true, "f82129e1a19c00b9d92acc712e69836a7e4e819a7e86ce3b8509ea4e0b3ae0b6"), looks := false }, kinds := [], alts := [], laidByText := true, laidKinds := [.data, .data, .data, .data, .pinned], laidTests := true, laidLooks := .later }
def HeadWritesUptoCardSaid : Prop := Claim7.holds Tryd.pinned (.plain (OpenSpec.upto headWritesSpec)) headWritesUptoCard

/-- THE SECOND FORM's CARD OF 'turnpikelaw22.HeadBack'. -/
def headBackUptoCard : Claim7 := { stood := { row := headBackUptoRow, standIns := [], harness := (true, "f82129e1a19c00b9d92acc712e69836a7e4e819a7e86ce3b8509ea4e0b3ae0b6"), looks := false }, kinds := [], alts := [], laidByText := true, laidKinds := [.data, .data, .data, .data, .pinned], laidTests := true, laidLooks := .later }
def HeadBackUptoCardSaid : Prop := Claim7.holds Tryd.pinned (.plain (OpenSpec.upto headBackSpec)) headBackUptoCard

/-- THE SECOND FORM's CARD OF 'turnpikelaw22.HeadOne'. -/
def headOneUptoCard : Claim7 := { stood := { row := headOneUptoRow, standIns := [], harness := (true, "f82129e1a19c00b9d92acc712e69836a7e4e819a7e86ce3b8509ea4e0b3ae0b6"), looks := false }, kinds := [], alts := [], laidByText := true, laidKinds := [.data, .data, .data, .data, .pinned], laidTests := true, laidLooks := .later }
def HeadOneUptoCardSaid : Prop := Claim7.holds Tryd.pinned (.plain (OpenSpec.upto headOneSpec)) headOneUptoCard

/-- THE SECOND FORM's CARD OF 'turnpikelaw22.HeadOwn'. -/
def headOwnUptoCard : Claim7 := { stood := { row := headOwnUptoRow, standIns := [], harness := (true, "f82129e1a19c00b9d92acc712e69836a7e4e819a7e86ce3b8509ea4e0b3ae0b6"), looks := false }, kinds := [], alts := [], laidByText := true, laidKinds := [.data, .data, .data, .data, .pinned], laidTests := true, laidLooks := .later }
def HeadOwnUptoCardSaid : Prop := Claim7.holds Tryd.pinned (.plain (OpenSpec.upto headOwnSpec)) headOwnUptoCard
end Rows
end Go.Proofs.YthipgmnfokfaiaaDoor
