/-
  DERIVED. GIVEN WITH THE SEED: THE CARDS: each row of YthmpjemchjfoeaaGreatDoorRows.lean that lists a variable, with what it lists TIED to the program's text (the seventh form; the later family's looks); each row that meets fmt, with fmt's text TOLD by the authors' own Lean function (tested against real Go, not proved from fmt's source: count such statements apart). THE CARD IS WHAT COUNTS. Prove the row's statement (the work); the ties are given (YthmpjemchjfoeaaGreatDoorTie.lean); close each card by the builder's one call (the guide's Derived/Test/ToyasCard.lean, 'card_holds'). Laid BY PROGRAM, IN A SANDBOX (cutbox-door.mjs). By AI agents, Wed Nov 11 2026. No macro, syntax, notation, axiom, sorry.
-/
import Derived.Test.YthmpjemchjfoeaaGreatDoorRows
import GoSem.ClaimSeven
namespace Go.Proofs.YthmpjemchjfoeaaGreatDoor
namespace Rows

/-- THE TIED CARD OF 'turnpikelaw28.ProxyClean'. -/
def proxyCleanCard : Claim7 := { stood := { row := proxyCleanRow, standIns := [], harness := (true, "7d06ce4d91c42fc42c77c1d494434f5d41eaaff1a010a3eab47603d6964e4e82"), looks := true }, kinds := [], alts := [], laidByText := true, laidKinds := [.data, .pinned], laidTests := true, laidLooks := .later }
def ProxyCleanCardSaid : Prop := Claim7.holds Tryz.pinned (.plain (OpenSpec.ofChange proxyCleanSpec)) proxyCleanCard

/-- THE TIED CARD OF 'turnpikelaw28.ProxyOwn'. -/
def proxyOwnCard : Claim7 := { stood := { row := proxyOwnRow, standIns := [], harness := (true, "7d06ce4d91c42fc42c77c1d494434f5d41eaaff1a010a3eab47603d6964e4e82"), looks := true }, kinds := [], alts := [], laidByText := true, laidKinds := [.data, .data, .data, .data, .pinned], laidTests := true, laidLooks := .later }
def ProxyOwnCardSaid : Prop := Claim7.holds Tryz.pinned (.plain (OpenSpec.ofChange proxyOwnSpec)) proxyOwnCard

/-- THE TIED CARD OF 'turnpikelaw28.ProxyBounds'. -/
def proxyBoundsCard : Claim7 := { stood := { row := proxyBoundsRow, standIns := [], harness := (true, "7d06ce4d91c42fc42c77c1d494434f5d41eaaff1a010a3eab47603d6964e4e82"), looks := true }, kinds := [], alts := [], laidByText := true, laidKinds := [.data, .data, .data, .data, .pinned], laidTests := true, laidLooks := .later }
def ProxyBoundsCardSaid : Prop := Claim7.holds Tryz.pinned (.plain (OpenSpec.ofChange proxyBoundsSpec)) proxyBoundsCard

/-- THE TIED CARD OF 'turnpikelaw28.ProxyDecides'. -/
def proxyDecidesCard : Claim7 := { stood := { row := proxyDecidesRow, standIns := [], harness := (true, "7d06ce4d91c42fc42c77c1d494434f5d41eaaff1a010a3eab47603d6964e4e82"), looks := true }, kinds := [], alts := [], laidByText := true, laidKinds := [.data, .data, .data, .data, .pinned], laidTests := true, laidLooks := .later }
def ProxyDecidesCardSaid : Prop := Claim7.holds Tryz.pinned (.plain (OpenSpec.ofChange proxyDecidesSpec)) proxyDecidesCard

/-- THE TIED CARD OF 'turnpikelaw28.ProxyLate'. -/
def proxyLateCard : Claim7 := { stood := { row := proxyLateRow, standIns := [], harness := (true, "7d06ce4d91c42fc42c77c1d494434f5d41eaaff1a010a3eab47603d6964e4e82"), looks := true }, kinds := [], alts := [], laidByText := true, laidKinds := [.data, .data, .data, .data, .pinned], laidTests := true, laidLooks := .later }
def ProxyLateCardSaid : Prop := Claim7.holds Tryz.pinned (.plain (OpenSpec.ofChange proxyLateSpec)) proxyLateCard

/-- THE TIED CARD OF 'turnpikelaw28.ProxyNone'. -/
def proxyNoneCard : Claim7 := { stood := { row := proxyNoneRow, standIns := [], harness := (true, "7d06ce4d91c42fc42c77c1d494434f5d41eaaff1a010a3eab47603d6964e4e82"), looks := true }, kinds := [], alts := [], laidByText := true, laidKinds := [.data, .data, .data, .data, .pinned], laidTests := true, laidLooks := .later }
def ProxyNoneCardSaid : Prop := Claim7.holds Tryz.pinned (.plain (OpenSpec.ofChange proxyNoneSpec)) proxyNoneCard

/-- THE TIED CARD OF 'turnpikelaw28.ProxyEmpties'. -/
def proxyEmptiesCard : Claim7 := { stood := { row := proxyEmptiesRow, standIns := [], harness := (true, "7d06ce4d91c42fc42c77c1d494434f5d41eaaff1a010a3eab47603d6964e4e82"), looks := true }, kinds := [], alts := [], laidByText := true, laidKinds := [.data, .data, .data, .data, .pinned], laidTests := true, laidLooks := .later }
def ProxyEmptiesCardSaid : Prop := Claim7.holds Tryz.pinned (.plain (OpenSpec.ofChange proxyEmptiesSpec)) proxyEmptiesCard

/-- THE SECOND FORM's CARD OF 'turnpikelaw28.ProxyClean'. -/
def proxyCleanUptoCard : Claim7 := { stood := { row := proxyCleanUptoRow, standIns := [], harness := (true, "7d06ce4d91c42fc42c77c1d494434f5d41eaaff1a010a3eab47603d6964e4e82"), looks := true }, kinds := [], alts := [], laidByText := true, laidKinds := [.data, .pinned], laidTests := true, laidLooks := .later }
def ProxyCleanUptoCardSaid : Prop := Claim7.holds Tryz.pinned (.plain (OpenSpec.upto proxyCleanSpec)) proxyCleanUptoCard

/-- THE SECOND FORM's CARD OF 'turnpikelaw28.ProxyOwn'. -/
def proxyOwnUptoCard : Claim7 := { stood := { row := proxyOwnUptoRow, standIns := [], harness := (true, "7d06ce4d91c42fc42c77c1d494434f5d41eaaff1a010a3eab47603d6964e4e82"), looks := true }, kinds := [], alts := [], laidByText := true, laidKinds := [.data, .data, .data, .data, .pinned], laidTests := true, laidLooks := .later }
def ProxyOwnUptoCardSaid : Prop := Claim7.holds Tryz.pinned (.plain (OpenSpec.upto proxyOwnSpec)) proxyOwnUptoCard

/-- THE SECOND FORM's CARD OF 'turnpikelaw28.ProxyBounds'. -/
def proxyBoundsUptoCard : Claim7 := { stood := { row := proxyBoundsUptoRow, standIns := [], harness := (true, "7d06ce4d91c42fc42c77c1d494434f5d41eaaff1a010a3eab47603d6964e4e82"), looks := true }, kinds := [], alts := [], laidByText := true, laidKinds := [.data, .data, .data, .data, .pinned], laidTests := true, laidLooks := .later }
def ProxyBoundsUptoCardSaid : Prop := Claim7.holds Tryz.pinned (.plain (OpenSpec.upto proxyBoundsSpec)) proxyBoundsUptoCard

/-- THE SECOND FORM's CARD OF 'turnpikelaw28.ProxyDecides'. -/
def proxyDecidesUptoCard : Claim7 := { stood := { row := proxyDecidesUptoRow, standIns := [], harness := (true, "7d06ce4d91c42fc42c77c1d494434f5d41eaaff1a010a3eab47603d6964e4e82"), looks := true }, kinds := [], alts := [], laidByText := true, laidKinds := [.data, .data, .data, .data, .pinned], laidTests := true, laidLooks := .later }
def ProxyDecidesUptoCardSaid : Prop := Claim7.holds Tryz.pinned (.plain (OpenSpec.upto proxyDecidesSpec)) proxyDecidesUptoCard

/-- THE SECOND FORM's CARD OF 'turnpikelaw28.ProxyLate'. -/
def proxyLateUptoCard : Claim7 := { stood := { row := proxyLateUptoRow, standIns := [], harness := (true, "7d06ce4d91c42fc42c77c1d494434f5d41eaaff1a010a3eab47603d6964e4e82"), looks := true }, kinds := [], alts := [], laidByText := true, laidKinds := [.data, .data, .data, .data, .pinned], laidTests := true, laidLooks := .later }
def ProxyLateUptoCardSaid : Prop := Claim7.holds Tryz.pinned (.plain (OpenSpec.upto proxyLateSpec)) proxyLateUptoCard

/-- THE SECOND FORM's CARD OF 'turnpikelaw28.ProxyNone'. -/
def proxyNoneUptoCard : Claim7 := { stood := { row := proxyNoneUptoRow, standIns := [], harness := (true, "7d06ce4d91c42fc42c77c1d494434f5d41eaaff1a010a3eab47603d6964e4e82"), looks := true }, kinds := [], alts := [], laidByText := true, laidKinds := [.data, .data, .data, .data, .pinned], laidTests := true, laidLooks := .later }
def ProxyNoneUptoCardSaid : Prop := Claim7.holds Tryz.pinned (.plain (OpenSpec.upto proxyNoneSpec)) proxyNoneUptoCard

/-- THE SECOND FORM's CARD OF 'turnpikelaw28.ProxyEmpties'. -/
def proxyEmptiesUptoCard : Claim7 := { stood := { row := proxyEmptiesUptoRow, standIns := [], harness := (true, "7d06ce4d91c42fc42c77c1d494434f5d41eaaff1a010a3eab47603d6964e4e82"), looks := true }, kinds := [], alts := [], laidByText := true, laidKinds := [.data, .data, .data, .data, .pinned], laidTests := true, laidLooks := .later }
def ProxyEmptiesUptoCardSaid : Prop := Claim7.holds Tryz.pinned (.plain (OpenSpec.upto proxyEmptiesSpec)) proxyEmptiesUptoCard
end Rows
end Go.Proofs.YthmpjemchjfoeaaGreatDoor
