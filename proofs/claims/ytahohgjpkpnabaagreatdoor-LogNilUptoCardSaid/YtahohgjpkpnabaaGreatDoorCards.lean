/-
  DERIVED. GIVEN WITH THE SEED: THE CARDS: each row of YtahohgjpkpnabaaGreatDoorRows.lean that lists a variable, with what it lists TIED to the program's text (the seventh form; the later family's looks); each row that meets fmt, with fmt's text TOLD by the authors' own Lean function (tested against real Go, not proved from fmt's source: count such statements apart). THE CARD IS WHAT COUNTS. Prove the row's statement (the work); the ties are given (YtahohgjpkpnabaaGreatDoorTie.lean); close each card by the builder's one call (the guide's Derived/Test/ToyasCard.lean, 'card_holds'). Laid BY PROGRAM, IN A SANDBOX (cutbox-door.mjs). By AI agents, Wed Nov 11 2026. No macro, syntax, notation, axiom, sorry.
-/
import Derived.Test.YtahohgjpkpnabaaGreatDoorRows
import GoSem.ClaimSeven
namespace Go.Proofs.YtahohgjpkpnabaaGreatDoor
namespace Rows

/-- THE TIED CARD OF 'turnpikelaw06.LogOwn'. -/
def logOwnCard : Claim7 := { stood := { row := logOwnRow, standIns := [], harness := (true, "02711dc288e3e588c8f4de8928afaeb3b4020794733d27972952e72a5eedc9fc"), looks := true }, kinds := [], alts := [], laidByText := true, laidKinds := [.data, .data, .data], laidTests := true, laidLooks := .later }
def LogOwnCardSaid : Prop := Claim7.holds Tryz.pinned (.plain (OpenSpec.ofChange logOwnSpec)) logOwnCard

/-- THE TIED CARD OF 'turnpikelaw06.LogFull'. -/
def logFullCard : Claim7 := { stood := { row := logFullRow, standIns := [], harness := (true, "02711dc288e3e588c8f4de8928afaeb3b4020794733d27972952e72a5eedc9fc"), looks := true }, kinds := [], alts := [], laidByText := true, laidKinds := [.data, .data, .data], laidTests := true, laidLooks := .later }
def LogFullCardSaid : Prop := Claim7.holds Tryz.pinned (.plain (OpenSpec.ofChange logFullSpec)) logFullCard

/-- THE TIED CARD OF 'turnpikelaw06.LogCrashes'. -/
def logCrashesCard : Claim7 := { stood := { row := logCrashesRow, standIns := [], harness := (true, "02711dc288e3e588c8f4de8928afaeb3b4020794733d27972952e72a5eedc9fc"), looks := true }, kinds := [], alts := [], laidByText := true, laidKinds := [.data, .data, .data], laidTests := true, laidLooks := .later }
def LogCrashesCardSaid : Prop := Claim7.holds Tryz.pinned (.plain (OpenSpec.ofChange logCrashesSpec)) logCrashesCard

/-- THE TIED CARD OF 'turnpikelaw06.LogNil'. -/
def logNilCard : Claim7 := { stood := { row := logNilRow, standIns := [], harness := (true, "02711dc288e3e588c8f4de8928afaeb3b4020794733d27972952e72a5eedc9fc"), looks := true }, kinds := [], alts := [], laidByText := true, laidKinds := [.data, .data, .data], laidTests := true, laidLooks := .later }
def LogNilCardSaid : Prop := Claim7.holds Tryz.pinned (.plain (OpenSpec.ofChange logNilSpec)) logNilCard

/-- THE TIED CARD OF 'turnpikelaw06.LogScripts'. -/
def logScriptsCard : Claim7 := { stood := { row := logScriptsRow, standIns := [], harness := (true, "02711dc288e3e588c8f4de8928afaeb3b4020794733d27972952e72a5eedc9fc"), looks := true }, kinds := [], alts := [], laidByText := true, laidKinds := [.data, .data, .data], laidTests := true, laidLooks := .later }
def LogScriptsCardSaid : Prop := Claim7.holds Tryz.pinned (.plain (OpenSpec.ofChange logScriptsSpec)) logScriptsCard

/-- THE TIED CARD OF 'turnpikelaw07.StoreOwn'. -/
def storeOwnCard : Claim7 := { stood := { row := storeOwnRow, standIns := [], harness := (true, "02711dc288e3e588c8f4de8928afaeb3b4020794733d27972952e72a5eedc9fc"), looks := true }, kinds := [], alts := [], laidByText := true, laidKinds := [.data, .data, .data], laidTests := true, laidLooks := .later }
def StoreOwnCardSaid : Prop := Claim7.holds Tryz.pinned (.plain (OpenSpec.ofChange storeOwnSpec)) storeOwnCard

/-- THE TIED CARD OF 'turnpikelaw07.StoreScripts'. -/
def storeScriptsCard : Claim7 := { stood := { row := storeScriptsRow, standIns := [], harness := (true, "02711dc288e3e588c8f4de8928afaeb3b4020794733d27972952e72a5eedc9fc"), looks := true }, kinds := [], alts := [], laidByText := true, laidKinds := [.data, .data, .data], laidTests := true, laidLooks := .later }
def StoreScriptsCardSaid : Prop := Claim7.holds Tryz.pinned (.plain (OpenSpec.ofChange storeScriptsSpec)) storeScriptsCard

/-- THE TIED CARD OF 'turnpikelaw07.StoreOdd'. -/
def storeOddCard : Claim7 := { stood := { row := storeOddRow, standIns := [], harness := (true, "02711dc288e3e588c8f4de8928afaeb3b4020794733d27972952e72a5eedc9fc"), looks := true }, kinds := [], alts := [], laidByText := true, laidKinds := [.data, .data, .data], laidTests := true, laidLooks := .later }
def StoreOddCardSaid : Prop := Claim7.holds Tryz.pinned (.plain (OpenSpec.ofChange storeOddSpec)) storeOddCard

/-- THE TIED CARD OF 'turnpikelaw07.StoreCrashes'. -/
def storeCrashesCard : Claim7 := { stood := { row := storeCrashesRow, standIns := [], harness := (true, "02711dc288e3e588c8f4de8928afaeb3b4020794733d27972952e72a5eedc9fc"), looks := true }, kinds := [], alts := [], laidByText := true, laidKinds := [.data, .data, .data], laidTests := true, laidLooks := .later }
def StoreCrashesCardSaid : Prop := Claim7.holds Tryz.pinned (.plain (OpenSpec.ofChange storeCrashesSpec)) storeCrashesCard

/-- THE TIED CARD OF 'turnpikelaw07.StoreRoom'. -/
def storeRoomCard : Claim7 := { stood := { row := storeRoomRow, standIns := [], harness := (true, "02711dc288e3e588c8f4de8928afaeb3b4020794733d27972952e72a5eedc9fc"), looks := true }, kinds := [], alts := [], laidByText := true, laidKinds := [.data, .data, .data], laidTests := true, laidLooks := .later }
def StoreRoomCardSaid : Prop := Claim7.holds Tryz.pinned (.plain (OpenSpec.ofChange storeRoomSpec)) storeRoomCard

/-- THE SECOND FORM's CARD OF 'turnpikelaw06.LogOwn'. -/
def logOwnUptoCard : Claim7 := { stood := { row := logOwnUptoRow, standIns := [], harness := (true, "02711dc288e3e588c8f4de8928afaeb3b4020794733d27972952e72a5eedc9fc"), looks := true }, kinds := [], alts := [], laidByText := true, laidKinds := [.data, .data, .data], laidTests := true, laidLooks := .later }
def LogOwnUptoCardSaid : Prop := Claim7.holds Tryz.pinned (.plain (OpenSpec.upto logOwnSpec)) logOwnUptoCard

/-- THE SECOND FORM's CARD OF 'turnpikelaw06.LogFull'. -/
def logFullUptoCard : Claim7 := { stood := { row := logFullUptoRow, standIns := [], harness := (true, "02711dc288e3e588c8f4de8928afaeb3b4020794733d27972952e72a5eedc9fc"), looks := true }, kinds := [], alts := [], laidByText := true, laidKinds := [.data, .data, .data], laidTests := true, laidLooks := .later }
def LogFullUptoCardSaid : Prop := Claim7.holds Tryz.pinned (.plain (OpenSpec.upto logFullSpec)) logFullUptoCard

/-- THE SECOND FORM's CARD OF 'turnpikelaw06.LogCrashes'. -/
def logCrashesUptoCard : Claim7 := { stood := { row := logCrashesUptoRow, standIns := [], harness := (true, "02711dc288e3e588c8f4de8928afaeb3b4020794733d27972952e72a5eedc9fc"), looks := true }, kinds := [], alts := [], laidByText := true, laidKinds := [.data, .data, .data], laidTests := true, laidLooks := .later }
def LogCrashesUptoCardSaid : Prop := Claim7.holds Tryz.pinned (.plain (OpenSpec.upto logCrashesSpec)) logCrashesUptoCard

/-- THE SECOND FORM's CARD OF 'turnpikelaw06.LogNil'. -/
def logNilUptoCard : Claim7 := { stood := { row := logNilUptoRow, standIns := [], harness := (true, "02711dc288e3e588c8f4de8928afaeb3b4020794733d27972952e72a5eedc9fc"), looks := true }, kinds := [], alts := [], laidByText := true, laidKinds := [.data, .data, .data], laidTests := true, laidLooks := .later }
def LogNilUptoCardSaid : Prop := Claim7.holds Tryz.pinned (.plain (OpenSpec.upto logNilSpec)) logNilUptoCard

/-- THE SECOND FORM's CARD OF 'turnpikelaw06.LogScripts'. -/
def logScriptsUptoCard : Claim7 := { stood := { row := logScriptsUptoRow, standIns := [], harness := (true, "02711dc288e3e588c8f4de8928afaeb3b4020794733d27972952e72a5eedc9fc"), looks := true }, kinds := [], alts := [], laidByText := true, laidKinds := [.data, .data, .data], laidTests := true, laidLooks := .later }
def LogScriptsUptoCardSaid : Prop := Claim7.holds Tryz.pinned (.plain (OpenSpec.upto logScriptsSpec)) logScriptsUptoCard

/-- THE SECOND FORM's CARD OF 'turnpikelaw07.StoreOwn'. -/
def storeOwnUptoCard : Claim7 := { stood := { row := storeOwnUptoRow, standIns := [], harness := (true, "02711dc288e3e588c8f4de8928afaeb3b4020794733d27972952e72a5eedc9fc"), looks := true }, kinds := [], alts := [], laidByText := true, laidKinds := [.data, .data, .data], laidTests := true, laidLooks := .later }
def StoreOwnUptoCardSaid : Prop := Claim7.holds Tryz.pinned (.plain (OpenSpec.upto storeOwnSpec)) storeOwnUptoCard

/-- THE SECOND FORM's CARD OF 'turnpikelaw07.StoreScripts'. -/
def storeScriptsUptoCard : Claim7 := { stood := { row := storeScriptsUptoRow, standIns := [], harness := (true, "02711dc288e3e588c8f4de8928afaeb3b4020794733d27972952e72a5eedc9fc"), looks := true }, kinds := [], alts := [], laidByText := true, laidKinds := [.data, .data, .data], laidTests := true, laidLooks := .later }
def StoreScriptsUptoCardSaid : Prop := Claim7.holds Tryz.pinned (.plain (OpenSpec.upto storeScriptsSpec)) storeScriptsUptoCard

/-- THE SECOND FORM's CARD OF 'turnpikelaw07.StoreOdd'. -/
def storeOddUptoCard : Claim7 := { stood := { row := storeOddUptoRow, standIns := [], harness := (true, "02711dc288e3e588c8f4de8928afaeb3b4020794733d27972952e72a5eedc9fc"), looks := true }, kinds := [], alts := [], laidByText := true, laidKinds := [.data, .data, .data], laidTests := true, laidLooks := .later }
def StoreOddUptoCardSaid : Prop := Claim7.holds Tryz.pinned (.plain (OpenSpec.upto storeOddSpec)) storeOddUptoCard

/-- THE SECOND FORM's CARD OF 'turnpikelaw07.StoreCrashes'. -/
def storeCrashesUptoCard : Claim7 := { stood := { row := storeCrashesUptoRow, standIns := [], harness := (true, "02711dc288e3e588c8f4de8928afaeb3b4020794733d27972952e72a5eedc9fc"), looks := true }, kinds := [], alts := [], laidByText := true, laidKinds := [.data, .data, .data], laidTests := true, laidLooks := .later }
def StoreCrashesUptoCardSaid : Prop := Claim7.holds Tryz.pinned (.plain (OpenSpec.upto storeCrashesSpec)) storeCrashesUptoCard

/-- THE SECOND FORM's CARD OF 'turnpikelaw07.StoreRoom'. -/
def storeRoomUptoCard : Claim7 := { stood := { row := storeRoomUptoRow, standIns := [], harness := (true, "02711dc288e3e588c8f4de8928afaeb3b4020794733d27972952e72a5eedc9fc"), looks := true }, kinds := [], alts := [], laidByText := true, laidKinds := [.data, .data, .data], laidTests := true, laidLooks := .later }
def StoreRoomUptoCardSaid : Prop := Claim7.holds Tryz.pinned (.plain (OpenSpec.upto storeRoomSpec)) storeRoomUptoCard
end Rows
end Go.Proofs.YtahohgjpkpnabaaGreatDoor
