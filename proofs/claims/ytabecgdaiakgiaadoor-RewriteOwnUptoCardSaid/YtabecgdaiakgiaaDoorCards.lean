/-
  DERIVED. GIVEN WITH THE SEED: THE CARDS: each row of YtabecgdaiakgiaaDoorRows.lean that lists a variable, with what it lists TIED to the program's text (the seventh form; the later family's looks); each row that meets fmt, with fmt's text TOLD by the authors' own Lean function (tested against real Go, not proved from fmt's source: count such statements apart). THE CARD IS WHAT COUNTS. Prove the row's statement (the work); the ties are given (YtabecgdaiakgiaaDoorTie.lean); close each card by the builder's one call (the guide's Derived/Test/ToyasCard.lean, 'card_holds'). Laid BY PROGRAM, IN A SANDBOX (cutbox-door.mjs). By AI agents, Wed Nov 11 2026. No macro, syntax, notation, axiom, sorry.
-/
import Derived.Test.YtabecgdaiakgiaaDoorRows
import GoSem.ClaimSeven
namespace Go.Proofs.YtabecgdaiakgiaaDoor
namespace Rows

/-- THE TIED CARD OF 'turnpikelaw25.RewriteAsks'. -/
def rewriteAsksCard : Claim7 := { stood := { row := rewriteAsksRow, standIns := [], harness := (true, "6090fa7a14a1bbdf006b5f2e2d04eb246f61555c0f84b8fe3fa269ae7c8e3265"), looks := false }, kinds := [], alts := [], laidByText := true, laidKinds := [.data, .pinned], laidTests := true, laidLooks := .later }
def RewriteAsksCardSaid : Prop := Claim7.holds Tryd.pinned (.plain (OpenSpec.ofChange rewriteAsksSpec)) rewriteAsksCard

/-- THE TIED CARD OF 'turnpikelaw23.ChunkOwn'. -/
def chunkOwnCard : Claim7 := { stood := { row := chunkOwnRow, standIns := [], harness := (true, "6090fa7a14a1bbdf006b5f2e2d04eb246f61555c0f84b8fe3fa269ae7c8e3265"), looks := false }, kinds := [], alts := [], laidByText := true, laidKinds := [.data, .data, .data, .data, .pinned], laidTests := true, laidLooks := .later }
def ChunkOwnCardSaid : Prop := Claim7.holds Tryd.pinned (.plain (OpenSpec.ofChange chunkOwnSpec)) chunkOwnCard

/-- THE TIED CARD OF 'turnpikelaw23.ChunkPieces'. -/
def chunkPiecesCard : Claim7 := { stood := { row := chunkPiecesRow, standIns := [], harness := (true, "6090fa7a14a1bbdf006b5f2e2d04eb246f61555c0f84b8fe3fa269ae7c8e3265"), looks := false }, kinds := [], alts := [], laidByText := true, laidKinds := [.data, .data, .data, .data, .pinned], laidTests := true, laidLooks := .later }
def ChunkPiecesCardSaid : Prop := Claim7.holds Tryd.pinned (.plain (OpenSpec.ofChange chunkPiecesSpec)) chunkPiecesCard

/-- THE TIED CARD OF 'turnpikelaw22.HeadOwn'. -/
def headOwnCard : Claim7 := { stood := { row := headOwnRow, standIns := [], harness := (true, "6090fa7a14a1bbdf006b5f2e2d04eb246f61555c0f84b8fe3fa269ae7c8e3265"), looks := false }, kinds := [], alts := [], laidByText := true, laidKinds := [.data, .data, .data, .data, .pinned], laidTests := true, laidLooks := .later }
def HeadOwnCardSaid : Prop := Claim7.holds Tryd.pinned (.plain (OpenSpec.ofChange headOwnSpec)) headOwnCard

/-- THE TIED CARD OF 'turnpikelaw25.RewriteReplies'. -/
def rewriteRepliesCard : Claim7 := { stood := { row := rewriteRepliesRow, standIns := [], harness := (true, "6090fa7a14a1bbdf006b5f2e2d04eb246f61555c0f84b8fe3fa269ae7c8e3265"), looks := false }, kinds := [], alts := [], laidByText := true, laidKinds := [.data, .data, .data, .data, .pinned], laidTests := true, laidLooks := .later }
def RewriteRepliesCardSaid : Prop := Claim7.holds Tryd.pinned (.plain (OpenSpec.ofChange rewriteRepliesSpec)) rewriteRepliesCard

/-- THE TIED CARD OF 'turnpikelaw25.RewriteOnce'. -/
def rewriteOnceCard : Claim7 := { stood := { row := rewriteOnceRow, standIns := [], harness := (true, "6090fa7a14a1bbdf006b5f2e2d04eb246f61555c0f84b8fe3fa269ae7c8e3265"), looks := false }, kinds := [], alts := [], laidByText := true, laidKinds := [.data, .data, .data, .data, .pinned], laidTests := true, laidLooks := .later }
def RewriteOnceCardSaid : Prop := Claim7.holds Tryd.pinned (.plain (OpenSpec.ofChange rewriteOnceSpec)) rewriteOnceCard

/-- THE TIED CARD OF 'turnpikelaw25.RewriteHeads'. -/
def rewriteHeadsCard : Claim7 := { stood := { row := rewriteHeadsRow, standIns := [], harness := (true, "6090fa7a14a1bbdf006b5f2e2d04eb246f61555c0f84b8fe3fa269ae7c8e3265"), looks := false }, kinds := [], alts := [], laidByText := true, laidKinds := [.data, .data, .data, .data, .pinned], laidTests := true, laidLooks := .later }
def RewriteHeadsCardSaid : Prop := Claim7.holds Tryd.pinned (.plain (OpenSpec.ofChange rewriteHeadsSpec)) rewriteHeadsCard

/-- THE TIED CARD OF 'turnpikelaw25.RewriteKeeps'. -/
def rewriteKeepsCard : Claim7 := { stood := { row := rewriteKeepsRow, standIns := [], harness := (true, "6090fa7a14a1bbdf006b5f2e2d04eb246f61555c0f84b8fe3fa269ae7c8e3265"), looks := false }, kinds := [], alts := [], laidByText := true, laidKinds := [.data, .data, .data, .data, .pinned], laidTests := true, laidLooks := .later }
def RewriteKeepsCardSaid : Prop := Claim7.holds Tryd.pinned (.plain (OpenSpec.ofChange rewriteKeepsSpec)) rewriteKeepsCard

/-- THE TIED CARD OF 'turnpikelaw25.RewriteOwn'. -/
def rewriteOwnCard : Claim7 := { stood := { row := rewriteOwnRow, standIns := [], harness := (true, "6090fa7a14a1bbdf006b5f2e2d04eb246f61555c0f84b8fe3fa269ae7c8e3265"), looks := false }, kinds := [], alts := [], laidByText := true, laidKinds := [.data, .data, .data, .data, .pinned], laidTests := true, laidLooks := .later }
def RewriteOwnCardSaid : Prop := Claim7.holds Tryd.pinned (.plain (OpenSpec.ofChange rewriteOwnSpec)) rewriteOwnCard

/-- THE TIED CARD OF 'turnpikelaw25.RewriteFrames'. -/
def rewriteFramesCard : Claim7 := { stood := { row := rewriteFramesRow, standIns := [], harness := (true, "6090fa7a14a1bbdf006b5f2e2d04eb246f61555c0f84b8fe3fa269ae7c8e3265"), looks := false }, kinds := [], alts := [], laidByText := true, laidKinds := [.data, .data, .data, .data, .pinned], laidTests := true, laidLooks := .later }
def RewriteFramesCardSaid : Prop := Claim7.holds Tryd.pinned (.plain (OpenSpec.ofChange rewriteFramesSpec)) rewriteFramesCard

/-- THE SECOND FORM's CARD OF 'turnpikelaw25.RewriteAsks'. -/
def rewriteAsksUptoCard : Claim7 := { stood := { row := rewriteAsksUptoRow, standIns := [], harness := (true, "6090fa7a14a1bbdf006b5f2e2d04eb246f61555c0f84b8fe3fa269ae7c8e3265"), looks := false }, kinds := [], alts := [], laidByText := true, laidKinds := [.data, .pinned], laidTests := true, laidLooks := .later }
def RewriteAsksUptoCardSaid : Prop := Claim7.holds Tryd.pinned (.plain (OpenSpec.upto rewriteAsksSpec)) rewriteAsksUptoCard

/-- THE SECOND FORM's CARD OF 'turnpikelaw23.ChunkOwn'. -/
def chunkOwnUptoCard : Claim7 := { stood := { row := chunkOwnUptoRow, standIns := [], harness := (true, "6090fa7a14a1bbdf006b5f2e2d04eb246f61555c0f84b8fe3fa269ae7c8e3265"), looks := false }, kinds := [], alts := [], laidByText := true, laidKinds := [.data, .data, .data, .data, .pinned], laidTests := true, laidLooks := .later }
def ChunkOwnUptoCardSaid : Prop := Claim7.holds Tryd.pinned (.plain (OpenSpec.upto chunkOwnSpec)) chunkOwnUptoCard

/-- THE SECOND FORM's CARD OF 'turnpikelaw23.ChunkPieces'. -/
def chunkPiecesUptoCard : Claim7 := { stood := { row := chunkPiecesUptoRow, standIns := [], harness := (true, "6090fa7a14a1bbdf006b5f2e2d04eb246f61555c0f84b8fe3fa269ae7c8e3265"), looks := false }, kinds := [], alts := [], laidByText := true, laidKinds := [.data, .data, .data, .data, .pinned], laidTests := true, laidLooks := .later }
def ChunkPiecesUptoCardSaid : Prop := Claim7.holds Tryd.pinned (.plain (OpenSpec.upto chunkPiecesSpec)) chunkPiecesUptoCard

/-- THE SECOND FORM's CARD OF 'turnpikelaw22.HeadOwn'. -/
def headOwnUptoCard : Claim7 := { stood := { row := headOwnUptoRow, standIns := [], harness := (true, "6090fa7a14a1bbdf006b5f2e2d04eb246f61555c0f84b8fe3fa269ae7c8e3265"), looks := false }, kinds := [], alts := [], laidByText := true, laidKinds := [.data, .data, .data, .data, .pinned], laidTests := true, laidLooks := .later }
def HeadOwnUptoCardSaid : Prop := Claim7.holds Tryd.pinned (.plain (OpenSpec.upto headOwnSpec)) headOwnUptoCard

/-- THE SECOND FORM's CARD OF 'turnpikelaw25.RewriteReplies'. -/
def rewriteRepliesUptoCard : Claim7 := { stood := { row := rewriteRepliesUptoRow, standIns := [], harness := (true, "6090fa7a14a1bbdf006b5f2e2d04eb246f61555c0f84b8fe3fa269ae7c8e3265"), looks := false }, kinds := [], alts := [], laidByText := true, laidKinds := [.data, .data, .data, .data, .pinned], laidTests := true, laidLooks := .later }
def RewriteRepliesUptoCardSaid : Prop := Claim7.holds Tryd.pinned (.plain (OpenSpec.upto rewriteRepliesSpec)) rewriteRepliesUptoCard

/-- THE SECOND FORM's CARD OF 'turnpikelaw25.RewriteOnce'. -/
def rewriteOnceUptoCard : Claim7 := { stood := { row := rewriteOnceUptoRow, standIns := [], harness := (true, "6090fa7a14a1bbdf006b5f2e2d04eb246f61555c0f84b8fe3fa269ae7c8e3265"), looks := false }, kinds := [], alts := [], laidByText := true, laidKinds := [.data, .data, .data, .data, .pinned], laidTests := true, laidLooks := .later }
def RewriteOnceUptoCardSaid : Prop := Claim7.holds Tryd.pinned (.plain (OpenSpec.upto rewriteOnceSpec)) rewriteOnceUptoCard

/-- THE SECOND FORM's CARD OF 'turnpikelaw25.RewriteHeads'. -/
def rewriteHeadsUptoCard : Claim7 := { stood := { row := rewriteHeadsUptoRow, standIns := [], harness := (true, "6090fa7a14a1bbdf006b5f2e2d04eb246f61555c0f84b8fe3fa269ae7c8e3265"), looks := false }, kinds := [], alts := [], laidByText := true, laidKinds := [.data, .data, .data, .data, .pinned], laidTests := true, laidLooks := .later }
def RewriteHeadsUptoCardSaid : Prop := Claim7.holds Tryd.pinned (.plain (OpenSpec.upto rewriteHeadsSpec)) rewriteHeadsUptoCard

/-- THE SECOND FORM's CARD OF 'turnpikelaw25.RewriteKeeps'. -/
def rewriteKeepsUptoCard : Claim7 := { stood := { row := rewriteKeepsUptoRow, standIns := [], harness := (true, "6090fa7a14a1bbdf006b5f2e2d04eb246f61555c0f84b8fe3fa269ae7c8e3265"), looks := false }, kinds := [], alts := [], laidByText := true, laidKinds := [.data, .data, .data, .data, .pinned], laidTests := true, laidLooks := .later }
def RewriteKeepsUptoCardSaid : Prop := Claim7.holds Tryd.pinned (.plain (OpenSpec.upto rewriteKeepsSpec)) rewriteKeepsUptoCard

/-- THE SECOND FORM's CARD OF 'turnpikelaw25.RewriteOwn'. -/
def rewriteOwnUptoCard : Claim7 := { stood := { row := rewriteOwnUptoRow, standIns := [], harness := (true, "6090fa7a14a1bbdf006b5f2e2d04eb246f61555c0f84b8fe3fa269ae7c8e3265"), looks := false }, kinds := [], alts := [], laidByText := true, laidKinds := [.data, .data, .data, .data, .pinned], laidTests := true, laidLooks := .later }
def RewriteOwnUptoCardSaid : Prop := Claim7.holds Tryd.pinned (.plain (OpenSpec.upto rewriteOwnSpec)) rewriteOwnUptoCard

/-- THE SECOND FORM's CARD OF 'turnpikelaw25.RewriteFrames'. -/
def rewriteFramesUptoCard : Claim7 := { stood := { row := rewriteFramesUptoRow, standIns := [], harness := (true, "6090fa7a14a1bbdf006b5f2e2d04eb246f61555c0f84b8fe3fa269ae7c8e3265"), looks := false }, kinds := [], alts := [], laidByText := true, laidKinds := [.data, .data, .data, .data, .pinned], laidTests := true, laidLooks := .later }
def RewriteFramesUptoCardSaid : Prop := Claim7.holds Tryd.pinned (.plain (OpenSpec.upto rewriteFramesSpec)) rewriteFramesUptoCard
end Rows
end Go.Proofs.YtabecgdaiakgiaaDoor
