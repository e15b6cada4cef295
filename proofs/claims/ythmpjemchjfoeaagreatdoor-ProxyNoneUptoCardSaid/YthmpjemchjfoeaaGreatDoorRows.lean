/-
  NARROWER THAN 'FOR EVERY INPUT', by the rows' own cells (each row's printed sentence says how): ProxyClean: laid · ProxyOwn: laid · ProxyBounds: laid · ProxyDecides: laid · ProxyLate: laid · ProxyNone: laid · ProxyEmpties: laid.
  DERIVED. THE GIVEN ROWS OF THIS SEAT. 7 by the template 'for every input the law returns true; each argument reads behind the call as it read before'; 0 by the template 'total and deterministic' (their statements: YthmpjemchjfoeaaGreatDoorTotals.lean).
  GIVEN WITH THE SEED: the statements are not yours to turn. If you find one false, say at which input.
  Laid BY PROGRAM, IN A SANDBOX (cutbox-rows.mjs): the forced cells as the released guide's own fill.sh prints them over the translation e20e33604886912d… (all of the seat's roots in one cut). By AI agents, Wed Nov 11 2026. No macro, syntax, notation, axiom, sorry.
-/
import Derived.Test.YthmpjemchjfoeaaGreatDoorChecked
import GoSem.PinnedTables
import GoSem.Claim
import GoSem.ClaimJoined
import GoSem.ClaimMapViews
import Derived.JoinedTies
import Derived.KernelRfl
namespace Go.Proofs.YthmpjemchjfoeaaGreatDoor
/- THE CELL 'sum', in the pinned program and in every row, IS THE sha256 OF THE DUMP (.gsa) THAT YthmpjemchjfoeaaGreatDoorProg.lean LOADS. Nothing in Lean hashes anything: it is a label: what it is worth is what the hold of that sum in a sandbox is worth. -/
noncomputable def Tryz.pinned : Pinned := { name := "ythmpjemchjfoeaagreatdoor", sum := "e20e33604886912d4164abc8d44624bc12a6df7c36c7e5e9b907ae428aa684a8", checked := Tryz.checked }
namespace Rows
def none {H : Type} : Left H := { results := [], args := [] }

/- WHAT THE LISTED PACKAGE-LEVEL VARIABLES READ AS WHEN THE CALL BEGINS. Each datum BY PROGRAM (the guide's laid-datum.mjs) off the statement by which the dump's own 'gosem.cut.vars' lays the variable. In a bare row this is a premise. The card (YthmpjemchjfoeaaGreatDoorCards.lean) ties it to the program's text. -/
def laid_unicode_utf8_acceptRanges {H : Type} : DataW H := .agg [.agg [.lit (.int .u8 128), .lit (.int .u8 191)], .agg [.lit (.int .u8 160), .lit (.int .u8 191)], .agg [.lit (.int .u8 128), .lit (.int .u8 159)], .agg [.lit (.int .u8 144), .lit (.int .u8 191)], .agg [.lit (.int .u8 128), .lit (.int .u8 143)], .agg [.lit (.int .u8 0), .lit (.int .u8 0)], .agg [.lit (.int .u8 0), .lit (.int .u8 0)], .agg [.lit (.int .u8 0), .lit (.int .u8 0)], .agg [.lit (.int .u8 0), .lit (.int .u8 0)], .agg [.lit (.int .u8 0), .lit (.int .u8 0)], .agg [.lit (.int .u8 0), .lit (.int .u8 0)], .agg [.lit (.int .u8 0), .lit (.int .u8 0)], .agg [.lit (.int .u8 0), .lit (.int .u8 0)], .agg [.lit (.int .u8 0), .lit (.int .u8 0)], .agg [.lit (.int .u8 0), .lit (.int .u8 0)], .agg [.lit (.int .u8 0), .lit (.int .u8 0)]]
/-- One of Go's own tables, pinned by name: the form's constant. -/
def laid_unicode_utf8_first : DataW Unit := Go.Pinned.utf8First
def laid_math_bits_deBruijn32tab {H : Type} : DataW H := .agg [.lit (.int .u8 0), .lit (.int .u8 1), .lit (.int .u8 28), .lit (.int .u8 2), .lit (.int .u8 29), .lit (.int .u8 14), .lit (.int .u8 24), .lit (.int .u8 3), .lit (.int .u8 30), .lit (.int .u8 22), .lit (.int .u8 20), .lit (.int .u8 15), .lit (.int .u8 25), .lit (.int .u8 17), .lit (.int .u8 4), .lit (.int .u8 8), .lit (.int .u8 31), .lit (.int .u8 27), .lit (.int .u8 13), .lit (.int .u8 23), .lit (.int .u8 21), .lit (.int .u8 19), .lit (.int .u8 16), .lit (.int .u8 7), .lit (.int .u8 26), .lit (.int .u8 12), .lit (.int .u8 18), .lit (.int .u8 6), .lit (.int .u8 11), .lit (.int .u8 5), .lit (.int .u8 10), .lit (.int .u8 9)]
def laid_math_bits_deBruijn64tab {H : Type} : DataW H := .agg [.lit (.int .u8 0), .lit (.int .u8 1), .lit (.int .u8 56), .lit (.int .u8 2), .lit (.int .u8 57), .lit (.int .u8 49), .lit (.int .u8 28), .lit (.int .u8 3), .lit (.int .u8 61), .lit (.int .u8 58), .lit (.int .u8 42), .lit (.int .u8 50), .lit (.int .u8 38), .lit (.int .u8 29), .lit (.int .u8 17), .lit (.int .u8 4), .lit (.int .u8 62), .lit (.int .u8 47), .lit (.int .u8 59), .lit (.int .u8 36), .lit (.int .u8 45), .lit (.int .u8 43), .lit (.int .u8 51), .lit (.int .u8 22), .lit (.int .u8 53), .lit (.int .u8 39), .lit (.int .u8 33), .lit (.int .u8 30), .lit (.int .u8 24), .lit (.int .u8 18), .lit (.int .u8 12), .lit (.int .u8 5), .lit (.int .u8 63), .lit (.int .u8 55), .lit (.int .u8 48), .lit (.int .u8 27), .lit (.int .u8 60), .lit (.int .u8 41), .lit (.int .u8 37), .lit (.int .u8 16), .lit (.int .u8 46), .lit (.int .u8 35), .lit (.int .u8 44), .lit (.int .u8 21), .lit (.int .u8 52), .lit (.int .u8 32), .lit (.int .u8 23), .lit (.int .u8 11), .lit (.int .u8 54), .lit (.int .u8 26), .lit (.int .u8 40), .lit (.int .u8 15), .lit (.int .u8 34), .lit (.int .u8 20), .lit (.int .u8 31), .lit (.int .u8 10), .lit (.int .u8 25), .lit (.int .u8 14), .lit (.int .u8 19), .lit (.int .u8 9), .lit (.int .u8 13), .lit (.int .u8 8), .lit (.int .u8 7), .lit (.int .u8 6)]
def laid_internal_strconv_uint64pow10 {H : Type} : DataW H := .agg [.lit (.int .u64 1), .lit (.int .u64 10), .lit (.int .u64 100), .lit (.int .u64 1000), .lit (.int .u64 10000), .lit (.int .u64 100000), .lit (.int .u64 1000000), .lit (.int .u64 10000000), .lit (.int .u64 100000000), .lit (.int .u64 1000000000), .lit (.int .u64 10000000000), .lit (.int .u64 100000000000), .lit (.int .u64 1000000000000), .lit (.int .u64 10000000000000), .lit (.int .u64 100000000000000), .lit (.int .u64 1000000000000000), .lit (.int .u64 10000000000000000), .lit (.int .u64 100000000000000000), .lit (.int .u64 1000000000000000000), .lit (.int .u64 10000000000000000000)]

/-- 'turnpikelaw28.ProxyClean': WHATEVER THE INPUT: true; the input reads as it did. -/
def proxyCleanSpec : ChangeSpec := { name := "proxyClean", fn := fun _ => fun
  | [d1, d2, d3] => { results := [.lit (.bool true)], args := [d1, d2, d3] }
  | _ => none }
def proxyCleanRow : OpenClaim := { program := "ythmpjemchjfoeaagreatdoor", sum := "e20e33604886912d4164abc8d44624bc12a6df7c36c7e5e9b907ae428aa684a8", func := "turnpike/turnpikelaw28.ProxyClean", spec := "proxyClean", inPlace := ["internal/bytealg.IndexByte", "internal/bytealg.Index", "internal/bytealg.CountString", "internal/bytealg.IndexByteString", "internal/bytealg.IndexString"], unfollowed := true, recurses := true, named := ["internal/bytealg.MaxLen", "unicode/utf8.first", "unicode/utf8.acceptRanges"], apart := false, laid := [("unicode/utf8.acceptRanges", laid_unicode_utf8_acceptRanges), ("unicode/utf8.first", laid_unicode_utf8_first)] }
def ProxyCleanSaid : Prop := proxyCleanRow.holds Tryz.pinned (OpenSpec.ofChange proxyCleanSpec)

/-- ITS FALSE NEIGHBOUR: 'it returns false'. Refute it at one input. -/
def proxyCleanWrong : ChangeSpec := { name := "proxyClean", fn := fun _ => fun
  | [d1, d2, d3] => { results := [.lit (.bool false)], args := [d1, d2, d3] }
  | _ => none }
def ProxyCleanWrongFalsely : Prop := proxyCleanRow.holds Tryz.pinned (OpenSpec.ofChange proxyCleanWrong)

/-- 'turnpikelaw28.ProxyOwn': WHATEVER THE INPUT: true; the input reads as it did. -/
def proxyOwnSpec : ChangeSpec := { name := "proxyOwn", fn := fun _ => fun
  | [d] => { results := [.lit (.bool true)], args := [d] }
  | _ => none }
def proxyOwnRow : OpenClaim := { program := "ythmpjemchjfoeaagreatdoor", sum := "e20e33604886912d4164abc8d44624bc12a6df7c36c7e5e9b907ae428aa684a8", func := "turnpike/turnpikelaw28.ProxyOwn", spec := "proxyOwn", inPlace := ["internal/bytealg.IndexByte", "internal/bytealg.Index", "internal/bytealg.CountString", "internal/bytealg.IndexByteString", "internal/bytealg.IndexString"], unfollowed := true, recurses := true, named := ["internal/bytealg.MaxLen", "unicode/utf8.first", "unicode/utf8.acceptRanges", "internal/strconv.uint64pow10", "math/bits.deBruijn32tab", "math/bits.deBruijn64tab"], apart := false, laid := [("math/bits.deBruijn32tab", laid_math_bits_deBruijn32tab), ("math/bits.deBruijn64tab", laid_math_bits_deBruijn64tab), ("internal/strconv.uint64pow10", laid_internal_strconv_uint64pow10), ("unicode/utf8.acceptRanges", laid_unicode_utf8_acceptRanges), ("unicode/utf8.first", laid_unicode_utf8_first)] }
def ProxyOwnSaid : Prop := proxyOwnRow.holds Tryz.pinned (OpenSpec.ofChange proxyOwnSpec)

/-- ITS FALSE NEIGHBOUR: 'it returns false'. Refute it at one input. -/
def proxyOwnWrong : ChangeSpec := { name := "proxyOwn", fn := fun _ => fun
  | [d] => { results := [.lit (.bool false)], args := [d] }
  | _ => none }
def ProxyOwnWrongFalsely : Prop := proxyOwnRow.holds Tryz.pinned (OpenSpec.ofChange proxyOwnWrong)

/-- 'turnpikelaw28.ProxyBounds': WHATEVER THE INPUT: true; the input reads as it did. -/
def proxyBoundsSpec : ChangeSpec := { name := "proxyBounds", fn := fun _ => fun
  | [d1, d2, d3, d4] => { results := [.lit (.bool true)], args := [d1, d2, d3, d4] }
  | _ => none }
def proxyBoundsRow : OpenClaim := { program := "ythmpjemchjfoeaagreatdoor", sum := "e20e33604886912d4164abc8d44624bc12a6df7c36c7e5e9b907ae428aa684a8", func := "turnpike/turnpikelaw28.ProxyBounds", spec := "proxyBounds", inPlace := ["internal/bytealg.IndexByte", "internal/bytealg.Index", "internal/bytealg.CountString", "internal/bytealg.IndexByteString", "internal/bytealg.IndexString"], unfollowed := true, recurses := true, named := ["internal/bytealg.MaxLen", "unicode/utf8.first", "unicode/utf8.acceptRanges", "internal/strconv.uint64pow10", "math/bits.deBruijn32tab", "math/bits.deBruijn64tab"], apart := false, laid := [("math/bits.deBruijn32tab", laid_math_bits_deBruijn32tab), ("math/bits.deBruijn64tab", laid_math_bits_deBruijn64tab), ("internal/strconv.uint64pow10", laid_internal_strconv_uint64pow10), ("unicode/utf8.acceptRanges", laid_unicode_utf8_acceptRanges), ("unicode/utf8.first", laid_unicode_utf8_first)] }
def ProxyBoundsSaid : Prop := proxyBoundsRow.holds Tryz.pinned (OpenSpec.ofChange proxyBoundsSpec)

/-- ITS FALSE NEIGHBOUR: 'it returns false'. Refute it at one input. -/
def proxyBoundsWrong : ChangeSpec := { name := "proxyBounds", fn := fun _ => fun
  | [d1, d2, d3, d4] => { results := [.lit (.bool false)], args := [d1, d2, d3, d4] }
  | _ => none }
def ProxyBoundsWrongFalsely : Prop := proxyBoundsRow.holds Tryz.pinned (OpenSpec.ofChange proxyBoundsWrong)

/-- 'turnpikelaw28.ProxyDecides': WHATEVER THE INPUT: true; the input reads as it did. -/
def proxyDecidesSpec : ChangeSpec := { name := "proxyDecides", fn := fun _ => fun
  | [d1, d2, d3, d4] => { results := [.lit (.bool true)], args := [d1, d2, d3, d4] }
  | _ => none }
def proxyDecidesRow : OpenClaim := { program := "ythmpjemchjfoeaagreatdoor", sum := "e20e33604886912d4164abc8d44624bc12a6df7c36c7e5e9b907ae428aa684a8", func := "turnpike/turnpikelaw28.ProxyDecides", spec := "proxyDecides", inPlace := ["internal/bytealg.IndexByte", "internal/bytealg.Index", "internal/bytealg.CountString", "internal/bytealg.IndexByteString", "internal/bytealg.IndexString"], unfollowed := true, recurses := true, named := ["internal/bytealg.MaxLen", "unicode/utf8.first", "unicode/utf8.acceptRanges", "internal/strconv.uint64pow10", "math/bits.deBruijn32tab", "math/bits.deBruijn64tab"], apart := false, laid := [("math/bits.deBruijn32tab", laid_math_bits_deBruijn32tab), ("math/bits.deBruijn64tab", laid_math_bits_deBruijn64tab), ("internal/strconv.uint64pow10", laid_internal_strconv_uint64pow10), ("unicode/utf8.acceptRanges", laid_unicode_utf8_acceptRanges), ("unicode/utf8.first", laid_unicode_utf8_first)] }
def ProxyDecidesSaid : Prop := proxyDecidesRow.holds Tryz.pinned (OpenSpec.ofChange proxyDecidesSpec)

/-- ITS FALSE NEIGHBOUR: 'it returns false'. Refute it at one input. -/
def proxyDecidesWrong : ChangeSpec := { name := "proxyDecides", fn := fun _ => fun
  | [d1, d2, d3, d4] => { results := [.lit (.bool false)], args := [d1, d2, d3, d4] }
  | _ => none }
def ProxyDecidesWrongFalsely : Prop := proxyDecidesRow.holds Tryz.pinned (OpenSpec.ofChange proxyDecidesWrong)

/-- 'turnpikelaw28.ProxyLate': WHATEVER THE INPUT: true; the input reads as it did. -/
def proxyLateSpec : ChangeSpec := { name := "proxyLate", fn := fun _ => fun
  | [d1, d2, d3, d4, d5] => { results := [.lit (.bool true)], args := [d1, d2, d3, d4, d5] }
  | _ => none }
def proxyLateRow : OpenClaim := { program := "ythmpjemchjfoeaagreatdoor", sum := "e20e33604886912d4164abc8d44624bc12a6df7c36c7e5e9b907ae428aa684a8", func := "turnpike/turnpikelaw28.ProxyLate", spec := "proxyLate", inPlace := ["internal/bytealg.IndexByte", "internal/bytealg.Index", "internal/bytealg.CountString", "internal/bytealg.IndexByteString", "internal/bytealg.IndexString"], unfollowed := true, recurses := true, named := ["internal/bytealg.MaxLen", "unicode/utf8.first", "unicode/utf8.acceptRanges", "internal/strconv.uint64pow10", "math/bits.deBruijn32tab", "math/bits.deBruijn64tab"], apart := false, laid := [("math/bits.deBruijn32tab", laid_math_bits_deBruijn32tab), ("math/bits.deBruijn64tab", laid_math_bits_deBruijn64tab), ("internal/strconv.uint64pow10", laid_internal_strconv_uint64pow10), ("unicode/utf8.acceptRanges", laid_unicode_utf8_acceptRanges), ("unicode/utf8.first", laid_unicode_utf8_first)] }
def ProxyLateSaid : Prop := proxyLateRow.holds Tryz.pinned (OpenSpec.ofChange proxyLateSpec)

/-- ITS FALSE NEIGHBOUR: 'it returns false'. Refute it at one input. -/
def proxyLateWrong : ChangeSpec := { name := "proxyLate", fn := fun _ => fun
  | [d1, d2, d3, d4, d5] => { results := [.lit (.bool false)], args := [d1, d2, d3, d4, d5] }
  | _ => none }
def ProxyLateWrongFalsely : Prop := proxyLateRow.holds Tryz.pinned (OpenSpec.ofChange proxyLateWrong)

/-- 'turnpikelaw28.ProxyNone': WHATEVER THE INPUT: true; the input reads as it did. -/
def proxyNoneSpec : ChangeSpec := { name := "proxyNone", fn := fun _ => fun
  | [d1, d2, d3, d4, d5, d6] => { results := [.lit (.bool true)], args := [d1, d2, d3, d4, d5, d6] }
  | _ => none }
def proxyNoneRow : OpenClaim := { program := "ythmpjemchjfoeaagreatdoor", sum := "e20e33604886912d4164abc8d44624bc12a6df7c36c7e5e9b907ae428aa684a8", func := "turnpike/turnpikelaw28.ProxyNone", spec := "proxyNone", inPlace := ["internal/bytealg.IndexByte", "internal/bytealg.Index", "internal/bytealg.CountString", "internal/bytealg.IndexByteString", "internal/bytealg.IndexString"], unfollowed := true, recurses := true, named := ["internal/bytealg.MaxLen", "unicode/utf8.first", "unicode/utf8.acceptRanges", "internal/strconv.uint64pow10", "math/bits.deBruijn32tab", "math/bits.deBruijn64tab"], apart := false, laid := [("math/bits.deBruijn32tab", laid_math_bits_deBruijn32tab), ("math/bits.deBruijn64tab", laid_math_bits_deBruijn64tab), ("internal/strconv.uint64pow10", laid_internal_strconv_uint64pow10), ("unicode/utf8.acceptRanges", laid_unicode_utf8_acceptRanges), ("unicode/utf8.first", laid_unicode_utf8_first)] }
def ProxyNoneSaid : Prop := proxyNoneRow.holds Tryz.pinned (OpenSpec.ofChange proxyNoneSpec)

/-- ITS FALSE NEIGHBOUR: 'it returns false'. Refute it at one input. -/
def proxyNoneWrong : ChangeSpec := { name := "proxyNone", fn := fun _ => fun
  | [d1, d2, d3, d4, d5, d6] => { results := [.lit (.bool false)], args := [d1, d2, d3, d4, d5, d6] }
  | _ => none }
def ProxyNoneWrongFalsely : Prop := proxyNoneRow.holds Tryz.pinned (OpenSpec.ofChange proxyNoneWrong)

/-- 'turnpikelaw28.ProxyEmpties': WHATEVER THE INPUT: true; the input reads as it did. -/
def proxyEmptiesSpec : ChangeSpec := { name := "proxyEmpties", fn := fun _ => fun
  | [d1, d2, d3, d4] => { results := [.lit (.bool true)], args := [d1, d2, d3, d4] }
  | _ => none }
def proxyEmptiesRow : OpenClaim := { program := "ythmpjemchjfoeaagreatdoor", sum := "e20e33604886912d4164abc8d44624bc12a6df7c36c7e5e9b907ae428aa684a8", func := "turnpike/turnpikelaw28.ProxyEmpties", spec := "proxyEmpties", inPlace := ["internal/bytealg.IndexByte", "internal/bytealg.Index", "internal/bytealg.CountString", "internal/bytealg.IndexByteString", "internal/bytealg.IndexString"], unfollowed := true, recurses := true, named := ["internal/bytealg.MaxLen", "unicode/utf8.first", "unicode/utf8.acceptRanges", "internal/strconv.uint64pow10", "math/bits.deBruijn32tab", "math/bits.deBruijn64tab"], apart := false, laid := [("math/bits.deBruijn32tab", laid_math_bits_deBruijn32tab), ("math/bits.deBruijn64tab", laid_math_bits_deBruijn64tab), ("internal/strconv.uint64pow10", laid_internal_strconv_uint64pow10), ("unicode/utf8.acceptRanges", laid_unicode_utf8_acceptRanges), ("unicode/utf8.first", laid_unicode_utf8_first)] }
def ProxyEmptiesSaid : Prop := proxyEmptiesRow.holds Tryz.pinned (OpenSpec.ofChange proxyEmptiesSpec)

/-- ITS FALSE NEIGHBOUR: 'it returns false'. Refute it at one input. -/
def proxyEmptiesWrong : ChangeSpec := { name := "proxyEmpties", fn := fun _ => fun
  | [d1, d2, d3, d4] => { results := [.lit (.bool false)], args := [d1, d2, d3, d4] }
  | _ => none }
def ProxyEmptiesWrongFalsely : Prop := proxyEmptiesRow.holds Tryz.pinned (OpenSpec.ofChange proxyEmptiesWrong)

/- THE SECOND FORM. 'bulk': how many values and letters a reading holds, each counted each time it is reached (what is shared counts as often as it is met; a slice's spare places count too). A statement '..UptoSaid' is the law's where the arguments, and the package variables that the reading takes, are together of bulk at most 1048576: NARROWER than '..Said'. Prove '..Said' where nothing that the law and all that it calls make is longer than what came in: it says more and counts as full. Else prove '..UptoSaid'. A law counts once. -/
mutual
def uptoBulk {H : Type} : DataW H → Nat
  | .lit (.string bytes) => bytes.length + 1
  | .lit _ => 1
  | .nil => 1
  | .ptr d => uptoBulk d + 1
  | .slice elems spare => uptoBulkAll elems + uptoBulkAll spare + 1
  | .agg parts => uptoBulkAll parts + 1
  | .iface _ d => uptoBulk d + 1
  | .map entries => uptoBulkEntries entries + 1
  | .held _ => 1
def uptoBulkAll {H : Type} : List (DataW H) → Nat
  | [] => 0
  | d :: r => uptoBulk d + uptoBulkAll r
def uptoBulkEntries {H : Type} : List (Lit × DataW H) → Nat
  | [] => 0
  | x :: r => uptoBulkEntry x + uptoBulkEntries r
def uptoBulkEntry {H : Type} : Lit × DataW H → Nat
  | (.string bytes, d) => bytes.length + uptoBulk d + 1
  | (_, d) => uptoBulk d + 1
 end
def uptoSmall : (H : Type) → List (DataW H) → Bool := fun _ ds => decide (uptoBulkAll ds ≤ 1048576)
def OpenSpec.upto (s : _root_.Go.ChangeSpec) : _root_.Go.OpenSpec := { _root_.Go.OpenSpec.ofChange s with cond := some uptoSmall }

/-- 'turnpikelaw28.ProxyClean', WHERE WHAT IT READS IS OF BULK AT MOST 1048576: true; the input reads as it did. -/
def proxyCleanUptoRow : OpenClaim := { program := "ythmpjemchjfoeaagreatdoor", sum := "e20e33604886912d4164abc8d44624bc12a6df7c36c7e5e9b907ae428aa684a8", func := "turnpike/turnpikelaw28.ProxyClean", spec := "proxyClean", inPlace := ["internal/bytealg.IndexByte", "internal/bytealg.Index", "internal/bytealg.CountString", "internal/bytealg.IndexByteString", "internal/bytealg.IndexString"], unfollowed := true, recurses := true, named := ["internal/bytealg.MaxLen", "unicode/utf8.first", "unicode/utf8.acceptRanges"], apart := false, laid := [("unicode/utf8.acceptRanges", laid_unicode_utf8_acceptRanges), ("unicode/utf8.first", laid_unicode_utf8_first)], narrowed := true }
def ProxyCleanUptoSaid : Prop := proxyCleanUptoRow.holds Tryz.pinned (OpenSpec.upto proxyCleanSpec)

/-- 'turnpikelaw28.ProxyOwn', WHERE WHAT IT READS IS OF BULK AT MOST 1048576: true; the input reads as it did. -/
def proxyOwnUptoRow : OpenClaim := { program := "ythmpjemchjfoeaagreatdoor", sum := "e20e33604886912d4164abc8d44624bc12a6df7c36c7e5e9b907ae428aa684a8", func := "turnpike/turnpikelaw28.ProxyOwn", spec := "proxyOwn", inPlace := ["internal/bytealg.IndexByte", "internal/bytealg.Index", "internal/bytealg.CountString", "internal/bytealg.IndexByteString", "internal/bytealg.IndexString"], unfollowed := true, recurses := true, named := ["internal/bytealg.MaxLen", "unicode/utf8.first", "unicode/utf8.acceptRanges", "internal/strconv.uint64pow10", "math/bits.deBruijn32tab", "math/bits.deBruijn64tab"], apart := false, laid := [("math/bits.deBruijn32tab", laid_math_bits_deBruijn32tab), ("math/bits.deBruijn64tab", laid_math_bits_deBruijn64tab), ("internal/strconv.uint64pow10", laid_internal_strconv_uint64pow10), ("unicode/utf8.acceptRanges", laid_unicode_utf8_acceptRanges), ("unicode/utf8.first", laid_unicode_utf8_first)], narrowed := true }
def ProxyOwnUptoSaid : Prop := proxyOwnUptoRow.holds Tryz.pinned (OpenSpec.upto proxyOwnSpec)

/-- 'turnpikelaw28.ProxyBounds', WHERE WHAT IT READS IS OF BULK AT MOST 1048576: true; the input reads as it did. -/
def proxyBoundsUptoRow : OpenClaim := { program := "ythmpjemchjfoeaagreatdoor", sum := "e20e33604886912d4164abc8d44624bc12a6df7c36c7e5e9b907ae428aa684a8", func := "turnpike/turnpikelaw28.ProxyBounds", spec := "proxyBounds", inPlace := ["internal/bytealg.IndexByte", "internal/bytealg.Index", "internal/bytealg.CountString", "internal/bytealg.IndexByteString", "internal/bytealg.IndexString"], unfollowed := true, recurses := true, named := ["internal/bytealg.MaxLen", "unicode/utf8.first", "unicode/utf8.acceptRanges", "internal/strconv.uint64pow10", "math/bits.deBruijn32tab", "math/bits.deBruijn64tab"], apart := false, laid := [("math/bits.deBruijn32tab", laid_math_bits_deBruijn32tab), ("math/bits.deBruijn64tab", laid_math_bits_deBruijn64tab), ("internal/strconv.uint64pow10", laid_internal_strconv_uint64pow10), ("unicode/utf8.acceptRanges", laid_unicode_utf8_acceptRanges), ("unicode/utf8.first", laid_unicode_utf8_first)], narrowed := true }
def ProxyBoundsUptoSaid : Prop := proxyBoundsUptoRow.holds Tryz.pinned (OpenSpec.upto proxyBoundsSpec)

/-- 'turnpikelaw28.ProxyDecides', WHERE WHAT IT READS IS OF BULK AT MOST 1048576: true; the input reads as it did. -/
def proxyDecidesUptoRow : OpenClaim := { program := "ythmpjemchjfoeaagreatdoor", sum := "e20e33604886912d4164abc8d44624bc12a6df7c36c7e5e9b907ae428aa684a8", func := "turnpike/turnpikelaw28.ProxyDecides", spec := "proxyDecides", inPlace := ["internal/bytealg.IndexByte", "internal/bytealg.Index", "internal/bytealg.CountString", "internal/bytealg.IndexByteString", "internal/bytealg.IndexString"], unfollowed := true, recurses := true, named := ["internal/bytealg.MaxLen", "unicode/utf8.first", "unicode/utf8.acceptRanges", "internal/strconv.uint64pow10", "math/bits.deBruijn32tab", "math/bits.deBruijn64tab"], apart := false, laid := [("math/bits.deBruijn32tab", laid_math_bits_deBruijn32tab), ("math/bits.deBruijn64tab", laid_math_bits_deBruijn64tab), ("internal/strconv.uint64pow10", laid_internal_strconv_uint64pow10), ("unicode/utf8.acceptRanges", laid_unicode_utf8_acceptRanges), ("unicode/utf8.first", laid_unicode_utf8_first)], narrowed := true }
def ProxyDecidesUptoSaid : Prop := proxyDecidesUptoRow.holds Tryz.pinned (OpenSpec.upto proxyDecidesSpec)

/-- 'turnpikelaw28.ProxyLate', WHERE WHAT IT READS IS OF BULK AT MOST 1048576: true; the input reads as it did. -/
def proxyLateUptoRow : OpenClaim := { program := "ythmpjemchjfoeaagreatdoor", sum := "e20e33604886912d4164abc8d44624bc12a6df7c36c7e5e9b907ae428aa684a8", func := "turnpike/turnpikelaw28.ProxyLate", spec := "proxyLate", inPlace := ["internal/bytealg.IndexByte", "internal/bytealg.Index", "internal/bytealg.CountString", "internal/bytealg.IndexByteString", "internal/bytealg.IndexString"], unfollowed := true, recurses := true, named := ["internal/bytealg.MaxLen", "unicode/utf8.first", "unicode/utf8.acceptRanges", "internal/strconv.uint64pow10", "math/bits.deBruijn32tab", "math/bits.deBruijn64tab"], apart := false, laid := [("math/bits.deBruijn32tab", laid_math_bits_deBruijn32tab), ("math/bits.deBruijn64tab", laid_math_bits_deBruijn64tab), ("internal/strconv.uint64pow10", laid_internal_strconv_uint64pow10), ("unicode/utf8.acceptRanges", laid_unicode_utf8_acceptRanges), ("unicode/utf8.first", laid_unicode_utf8_first)], narrowed := true }
def ProxyLateUptoSaid : Prop := proxyLateUptoRow.holds Tryz.pinned (OpenSpec.upto proxyLateSpec)

/-- 'turnpikelaw28.ProxyNone', WHERE WHAT IT READS IS OF BULK AT MOST 1048576: true; the input reads as it did. -/
def proxyNoneUptoRow : OpenClaim := { program := "ythmpjemchjfoeaagreatdoor", sum := "e20e33604886912d4164abc8d44624bc12a6df7c36c7e5e9b907ae428aa684a8", func := "turnpike/turnpikelaw28.ProxyNone", spec := "proxyNone", inPlace := ["internal/bytealg.IndexByte", "internal/bytealg.Index", "internal/bytealg.CountString", "internal/bytealg.IndexByteString", "internal/bytealg.IndexString"], unfollowed := true, recurses := true, named := ["internal/bytealg.MaxLen", "unicode/utf8.first", "unicode/utf8.acceptRanges", "internal/strconv.uint64pow10", "math/bits.deBruijn32tab", "math/bits.deBruijn64tab"], apart := false, laid := [("math/bits.deBruijn32tab", laid_math_bits_deBruijn32tab), ("math/bits.deBruijn64tab", laid_math_bits_deBruijn64tab), ("internal/strconv.uint64pow10", laid_internal_strconv_uint64pow10), ("unicode/utf8.acceptRanges", laid_unicode_utf8_acceptRanges), ("unicode/utf8.first", laid_unicode_utf8_first)], narrowed := true }
def ProxyNoneUptoSaid : Prop := proxyNoneUptoRow.holds Tryz.pinned (OpenSpec.upto proxyNoneSpec)

/-- 'turnpikelaw28.ProxyEmpties', WHERE WHAT IT READS IS OF BULK AT MOST 1048576: true; the input reads as it did. -/
def proxyEmptiesUptoRow : OpenClaim := { program := "ythmpjemchjfoeaagreatdoor", sum := "e20e33604886912d4164abc8d44624bc12a6df7c36c7e5e9b907ae428aa684a8", func := "turnpike/turnpikelaw28.ProxyEmpties", spec := "proxyEmpties", inPlace := ["internal/bytealg.IndexByte", "internal/bytealg.Index", "internal/bytealg.CountString", "internal/bytealg.IndexByteString", "internal/bytealg.IndexString"], unfollowed := true, recurses := true, named := ["internal/bytealg.MaxLen", "unicode/utf8.first", "unicode/utf8.acceptRanges", "internal/strconv.uint64pow10", "math/bits.deBruijn32tab", "math/bits.deBruijn64tab"], apart := false, laid := [("math/bits.deBruijn32tab", laid_math_bits_deBruijn32tab), ("math/bits.deBruijn64tab", laid_math_bits_deBruijn64tab), ("internal/strconv.uint64pow10", laid_internal_strconv_uint64pow10), ("unicode/utf8.acceptRanges", laid_unicode_utf8_acceptRanges), ("unicode/utf8.first", laid_unicode_utf8_first)], narrowed := true }
def ProxyEmptiesUptoSaid : Prop := proxyEmptiesUptoRow.holds Tryz.pinned (OpenSpec.upto proxyEmptiesSpec)

end Rows
end Go.Proofs.YthmpjemchjfoeaaGreatDoor
