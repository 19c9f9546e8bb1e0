/-
  NARROWER THAN 'FOR EVERY INPUT', by the rows' own cells (each row's printed sentence says how): SizeTurns: laid · SizeFits: laid · SizeWrites: laid · SizeInside: laid · SizeNever: laid · SizeBoth: laid · SizeRead: laid · SizeFitted: laid · SizeRedrawn: laid · SizeRoom: laid · SizeShared: laid · SizeMeets: laid · SizeExamples: laid.
  DERIVED. THE GIVEN ROWS OF THIS SEAT. 13 by the template 'for every input the law returns true; each argument reads behind the call as it read before'; 0 by the template 'total and deterministic' (their statements: YtikjooemblpnbaaDoorTotals.lean).
  GIVEN WITH THE SEED: the statements are not yours to turn. If you find one false, say at which input.
  Laid BY PROGRAM, IN A SANDBOX (cutbox-rows.mjs): the forced cells as the released guide's own fill.sh prints them over the translation 0414c67cc3799746… (all of the seat's roots in one cut). By AI agents, Wed Nov 11 2026. No macro, syntax, notation, axiom, sorry.
-/
import Derived.Test.YtikjooemblpnbaaDoorChecked
import GoSem.PinnedTables
import GoSem.Claim
import GoSem.ClaimJoined
import GoSem.ClaimMapViews
import Derived.JoinedTies
import Derived.KernelRfl
namespace Go.Proofs.YtikjooemblpnbaaDoor
/- THE CELL 'sum', in the pinned program and in every row, IS THE sha256 OF THE DUMP (.gsa) THAT YtikjooemblpnbaaDoorProg.lean LOADS. Nothing in Lean hashes anything: it is a label: what it is worth is what the hold of that sum in a sandbox is worth. -/
noncomputable def Tryd.pinned : Pinned := { name := "ytikjooemblpnbaadoor", sum := "0414c67cc37997468d916039f5943235d55bd6157517574a71a51afcc4f9b653", checked := Tryd.checked }
namespace Rows
def none {H : Type} : Left H := { results := [], args := [] }

/- WHAT THE LISTED PACKAGE-LEVEL VARIABLES READ AS WHEN THE CALL BEGINS. Each datum BY PROGRAM (the guide's laid-datum.mjs) off the statement by which the dump's own 'gosem.cut.vars' lays the variable. In a bare row this is a premise. The card (YtikjooemblpnbaaDoorCards.lean) ties it to the program's text. -/
def laid_blueline_size_units {H : Type} : DataW H := .iface "func table" (.agg [.agg [.lit (.int .i64 0), .lit (.int .i64 0), .lit (.string []), .nil], .agg [.lit (.int .i64 100), .lit (.int .i64 3), .lit (.string [109, 109]), .iface "func" (.lit (.string [98, 108, 117, 101, 108, 105, 110, 101, 47, 115, 105, 122, 101, 46, 114, 111, 117, 110, 100, 101, 100]))], .agg [.lit (.int .i64 254), .lit (.int .i64 4), .lit (.string [105, 110]), .iface "func" (.lit (.string [98, 108, 117, 101, 108, 105, 110, 101, 47, 115, 105, 122, 101, 46, 114, 111, 117, 110, 100, 101, 100]))]])
def laid_unicode_utf8_acceptRanges {H : Type} : DataW H := .agg [.agg [.lit (.int .u8 128), .lit (.int .u8 191)], .agg [.lit (.int .u8 160), .lit (.int .u8 191)], .agg [.lit (.int .u8 128), .lit (.int .u8 159)], .agg [.lit (.int .u8 144), .lit (.int .u8 191)], .agg [.lit (.int .u8 128), .lit (.int .u8 143)], .agg [.lit (.int .u8 0), .lit (.int .u8 0)], .agg [.lit (.int .u8 0), .lit (.int .u8 0)], .agg [.lit (.int .u8 0), .lit (.int .u8 0)], .agg [.lit (.int .u8 0), .lit (.int .u8 0)], .agg [.lit (.int .u8 0), .lit (.int .u8 0)], .agg [.lit (.int .u8 0), .lit (.int .u8 0)], .agg [.lit (.int .u8 0), .lit (.int .u8 0)], .agg [.lit (.int .u8 0), .lit (.int .u8 0)], .agg [.lit (.int .u8 0), .lit (.int .u8 0)], .agg [.lit (.int .u8 0), .lit (.int .u8 0)], .agg [.lit (.int .u8 0), .lit (.int .u8 0)]]
/-- One of Go's own tables, pinned by name: the form's constant. -/
def laid_unicode_utf8_first : DataW Unit := Go.Pinned.utf8First
def laid_math_bits_deBruijn32tab {H : Type} : DataW H := .agg [.lit (.int .u8 0), .lit (.int .u8 1), .lit (.int .u8 28), .lit (.int .u8 2), .lit (.int .u8 29), .lit (.int .u8 14), .lit (.int .u8 24), .lit (.int .u8 3), .lit (.int .u8 30), .lit (.int .u8 22), .lit (.int .u8 20), .lit (.int .u8 15), .lit (.int .u8 25), .lit (.int .u8 17), .lit (.int .u8 4), .lit (.int .u8 8), .lit (.int .u8 31), .lit (.int .u8 27), .lit (.int .u8 13), .lit (.int .u8 23), .lit (.int .u8 21), .lit (.int .u8 19), .lit (.int .u8 16), .lit (.int .u8 7), .lit (.int .u8 26), .lit (.int .u8 12), .lit (.int .u8 18), .lit (.int .u8 6), .lit (.int .u8 11), .lit (.int .u8 5), .lit (.int .u8 10), .lit (.int .u8 9)]
def laid_math_bits_deBruijn64tab {H : Type} : DataW H := .agg [.lit (.int .u8 0), .lit (.int .u8 1), .lit (.int .u8 56), .lit (.int .u8 2), .lit (.int .u8 57), .lit (.int .u8 49), .lit (.int .u8 28), .lit (.int .u8 3), .lit (.int .u8 61), .lit (.int .u8 58), .lit (.int .u8 42), .lit (.int .u8 50), .lit (.int .u8 38), .lit (.int .u8 29), .lit (.int .u8 17), .lit (.int .u8 4), .lit (.int .u8 62), .lit (.int .u8 47), .lit (.int .u8 59), .lit (.int .u8 36), .lit (.int .u8 45), .lit (.int .u8 43), .lit (.int .u8 51), .lit (.int .u8 22), .lit (.int .u8 53), .lit (.int .u8 39), .lit (.int .u8 33), .lit (.int .u8 30), .lit (.int .u8 24), .lit (.int .u8 18), .lit (.int .u8 12), .lit (.int .u8 5), .lit (.int .u8 63), .lit (.int .u8 55), .lit (.int .u8 48), .lit (.int .u8 27), .lit (.int .u8 60), .lit (.int .u8 41), .lit (.int .u8 37), .lit (.int .u8 16), .lit (.int .u8 46), .lit (.int .u8 35), .lit (.int .u8 44), .lit (.int .u8 21), .lit (.int .u8 52), .lit (.int .u8 32), .lit (.int .u8 23), .lit (.int .u8 11), .lit (.int .u8 54), .lit (.int .u8 26), .lit (.int .u8 40), .lit (.int .u8 15), .lit (.int .u8 34), .lit (.int .u8 20), .lit (.int .u8 31), .lit (.int .u8 10), .lit (.int .u8 25), .lit (.int .u8 14), .lit (.int .u8 19), .lit (.int .u8 9), .lit (.int .u8 13), .lit (.int .u8 8), .lit (.int .u8 7), .lit (.int .u8 6)]
def laid_internal_strconv_uint64pow10 {H : Type} : DataW H := .agg [.lit (.int .u64 1), .lit (.int .u64 10), .lit (.int .u64 100), .lit (.int .u64 1000), .lit (.int .u64 10000), .lit (.int .u64 100000), .lit (.int .u64 1000000), .lit (.int .u64 10000000), .lit (.int .u64 100000000), .lit (.int .u64 1000000000), .lit (.int .u64 10000000000), .lit (.int .u64 100000000000), .lit (.int .u64 1000000000000), .lit (.int .u64 10000000000000), .lit (.int .u64 100000000000000), .lit (.int .u64 1000000000000000), .lit (.int .u64 10000000000000000), .lit (.int .u64 100000000000000000), .lit (.int .u64 1000000000000000000), .lit (.int .u64 10000000000000000000)]

/-- 'bluelinelaw01.SizeTurns': WHATEVER THE INPUT: true; the input reads as it did. -/
def sizeTurnsSpec : ChangeSpec := { name := "sizeTurns", fn := fun _ => fun
  | [d1, d2, d3] => { results := [.lit (.bool true)], args := [d1, d2, d3] }
  | _ => none }
def sizeTurnsRow : OpenClaim := { program := "ytikjooemblpnbaadoor", sum := "0414c67cc37997468d916039f5943235d55bd6157517574a71a51afcc4f9b653", func := "blueline/bluelinelaw01.SizeTurns", spec := "sizeTurns", unfollowed := true, recurses := true, named := ["blueline/size.units"], apart := false, laid := [("blueline/size.units", laid_blueline_size_units)] }
def SizeTurnsSaid : Prop := sizeTurnsRow.holds Tryd.pinned (OpenSpec.ofChange sizeTurnsSpec)

/-- ITS FALSE NEIGHBOUR: 'it returns false'. Refute it at one input. -/
def sizeTurnsWrong : ChangeSpec := { name := "sizeTurns", fn := fun _ => fun
  | [d1, d2, d3] => { results := [.lit (.bool false)], args := [d1, d2, d3] }
  | _ => none }
def SizeTurnsWrongFalsely : Prop := sizeTurnsRow.holds Tryd.pinned (OpenSpec.ofChange sizeTurnsWrong)

/-- 'bluelinelaw01.SizeFits': WHATEVER THE INPUT: true; the input reads as it did. -/
def sizeFitsSpec : ChangeSpec := { name := "sizeFits", fn := fun _ => fun
  | [d1, d2, d3, d4, d5, d6] => { results := [.lit (.bool true)], args := [d1, d2, d3, d4, d5, d6] }
  | _ => none }
def sizeFitsRow : OpenClaim := { program := "ytikjooemblpnbaadoor", sum := "0414c67cc37997468d916039f5943235d55bd6157517574a71a51afcc4f9b653", func := "blueline/bluelinelaw01.SizeFits", spec := "sizeFits", unfollowed := true, recurses := true, named := ["blueline/size.units"], apart := false, laid := [("blueline/size.units", laid_blueline_size_units)] }
def SizeFitsSaid : Prop := sizeFitsRow.holds Tryd.pinned (OpenSpec.ofChange sizeFitsSpec)

/-- ITS FALSE NEIGHBOUR: 'it returns false'. Refute it at one input. -/
def sizeFitsWrong : ChangeSpec := { name := "sizeFits", fn := fun _ => fun
  | [d1, d2, d3, d4, d5, d6] => { results := [.lit (.bool false)], args := [d1, d2, d3, d4, d5, d6] }
  | _ => none }
def SizeFitsWrongFalsely : Prop := sizeFitsRow.holds Tryd.pinned (OpenSpec.ofChange sizeFitsWrong)

/-- 'bluelinelaw01.SizeWrites': WHATEVER THE INPUT: true; the input reads as it did. -/
def sizeWritesSpec : ChangeSpec := { name := "sizeWrites", fn := fun _ => fun
  | [d1, d2, d3] => { results := [.lit (.bool true)], args := [d1, d2, d3] }
  | _ => none }
def sizeWritesRow : OpenClaim := { program := "ytikjooemblpnbaadoor", sum := "0414c67cc37997468d916039f5943235d55bd6157517574a71a51afcc4f9b653", func := "blueline/bluelinelaw01.SizeWrites", spec := "sizeWrites", inPlace := ["internal/abi.NoEscape", "internal/bytealg.MakeNoZero", "internal/bytealg.CountString", "internal/bytealg.IndexByteString", "internal/bytealg.IndexString"], unfollowed := true, recurses := true, named := ["blueline/size.units", "unicode/utf8.first", "unicode/utf8.acceptRanges", "internal/bytealg.MaxLen"], apart := false, laid := [("unicode/utf8.acceptRanges", laid_unicode_utf8_acceptRanges), ("blueline/size.units", laid_blueline_size_units), ("unicode/utf8.first", laid_unicode_utf8_first)] }
def SizeWritesSaid : Prop := sizeWritesRow.holds Tryd.pinned (OpenSpec.ofChange sizeWritesSpec)

/-- ITS FALSE NEIGHBOUR: 'it returns false'. Refute it at one input. -/
def sizeWritesWrong : ChangeSpec := { name := "sizeWrites", fn := fun _ => fun
  | [d1, d2, d3] => { results := [.lit (.bool false)], args := [d1, d2, d3] }
  | _ => none }
def SizeWritesWrongFalsely : Prop := sizeWritesRow.holds Tryd.pinned (OpenSpec.ofChange sizeWritesWrong)

/-- 'bluelinelaw01.SizeInside': WHATEVER THE INPUT: true; the input reads as it did. -/
def sizeInsideSpec : ChangeSpec := { name := "sizeInside", fn := fun _ => fun
  | [d1, d2, d3] => { results := [.lit (.bool true)], args := [d1, d2, d3] }
  | _ => none }
def sizeInsideRow : OpenClaim := { program := "ytikjooemblpnbaadoor", sum := "0414c67cc37997468d916039f5943235d55bd6157517574a71a51afcc4f9b653", func := "blueline/bluelinelaw01.SizeInside", spec := "sizeInside", inPlace := ["internal/abi.NoEscape", "internal/bytealg.MakeNoZero", "internal/bytealg.CountString", "internal/bytealg.IndexByteString", "internal/bytealg.IndexString"], unfollowed := true, recurses := true, named := ["blueline/size.units", "unicode/utf8.first", "unicode/utf8.acceptRanges", "internal/bytealg.MaxLen"], apart := false, laid := [("unicode/utf8.acceptRanges", laid_unicode_utf8_acceptRanges), ("blueline/size.units", laid_blueline_size_units), ("unicode/utf8.first", laid_unicode_utf8_first)] }
def SizeInsideSaid : Prop := sizeInsideRow.holds Tryd.pinned (OpenSpec.ofChange sizeInsideSpec)

/-- ITS FALSE NEIGHBOUR: 'it returns false'. Refute it at one input. -/
def sizeInsideWrong : ChangeSpec := { name := "sizeInside", fn := fun _ => fun
  | [d1, d2, d3] => { results := [.lit (.bool false)], args := [d1, d2, d3] }
  | _ => none }
def SizeInsideWrongFalsely : Prop := sizeInsideRow.holds Tryd.pinned (OpenSpec.ofChange sizeInsideWrong)

/-- 'bluelinelaw01.SizeNever': WHATEVER THE INPUT: true; the input reads as it did. -/
def sizeNeverSpec : ChangeSpec := { name := "sizeNever", fn := fun _ => fun
  | [d1, d2] => { results := [.lit (.bool true)], args := [d1, d2] }
  | _ => none }
def sizeNeverRow : OpenClaim := { program := "ytikjooemblpnbaadoor", sum := "0414c67cc37997468d916039f5943235d55bd6157517574a71a51afcc4f9b653", func := "blueline/bluelinelaw01.SizeNever", spec := "sizeNever", inPlace := ["internal/abi.NoEscape", "internal/bytealg.MakeNoZero", "internal/bytealg.CountString", "internal/bytealg.IndexByteString", "internal/bytealg.IndexString"], unfollowed := true, recurses := true, named := ["blueline/size.units", "unicode/utf8.first", "unicode/utf8.acceptRanges", "internal/bytealg.MaxLen"], apart := false, laid := [("unicode/utf8.acceptRanges", laid_unicode_utf8_acceptRanges), ("blueline/size.units", laid_blueline_size_units), ("unicode/utf8.first", laid_unicode_utf8_first)] }
def SizeNeverSaid : Prop := sizeNeverRow.holds Tryd.pinned (OpenSpec.ofChange sizeNeverSpec)

/-- ITS FALSE NEIGHBOUR: 'it returns false'. Refute it at one input. -/
def sizeNeverWrong : ChangeSpec := { name := "sizeNever", fn := fun _ => fun
  | [d1, d2] => { results := [.lit (.bool false)], args := [d1, d2] }
  | _ => none }
def SizeNeverWrongFalsely : Prop := sizeNeverRow.holds Tryd.pinned (OpenSpec.ofChange sizeNeverWrong)

/-- 'bluelinelaw01.SizeBoth': WHATEVER THE INPUT: true; the input reads as it did. -/
def sizeBothSpec : ChangeSpec := { name := "sizeBoth", fn := fun _ => fun
  | [d1, d2] => { results := [.lit (.bool true)], args := [d1, d2] }
  | _ => none }
def sizeBothRow : OpenClaim := { program := "ytikjooemblpnbaadoor", sum := "0414c67cc37997468d916039f5943235d55bd6157517574a71a51afcc4f9b653", func := "blueline/bluelinelaw01.SizeBoth", spec := "sizeBoth", inPlace := ["internal/abi.NoEscape", "internal/bytealg.MakeNoZero", "internal/bytealg.CountString", "internal/bytealg.IndexByteString", "internal/bytealg.IndexString"], unfollowed := true, recurses := true, named := ["blueline/size.units", "unicode/utf8.first", "unicode/utf8.acceptRanges", "internal/bytealg.MaxLen"], apart := false, laid := [("unicode/utf8.acceptRanges", laid_unicode_utf8_acceptRanges), ("blueline/size.units", laid_blueline_size_units), ("unicode/utf8.first", laid_unicode_utf8_first)] }
def SizeBothSaid : Prop := sizeBothRow.holds Tryd.pinned (OpenSpec.ofChange sizeBothSpec)

/-- ITS FALSE NEIGHBOUR: 'it returns false'. Refute it at one input. -/
def sizeBothWrong : ChangeSpec := { name := "sizeBoth", fn := fun _ => fun
  | [d1, d2] => { results := [.lit (.bool false)], args := [d1, d2] }
  | _ => none }
def SizeBothWrongFalsely : Prop := sizeBothRow.holds Tryd.pinned (OpenSpec.ofChange sizeBothWrong)

/-- 'bluelinelaw01.SizeRead': WHATEVER THE INPUT: true; the input reads as it did. -/
def sizeReadSpec : ChangeSpec := { name := "sizeRead", fn := fun _ => fun
  | [d1, d2, d3] => { results := [.lit (.bool true)], args := [d1, d2, d3] }
  | _ => none }
def sizeReadRow : OpenClaim := { program := "ytikjooemblpnbaadoor", sum := "0414c67cc37997468d916039f5943235d55bd6157517574a71a51afcc4f9b653", func := "blueline/bluelinelaw01.SizeRead", spec := "sizeRead", inPlace := ["internal/abi.NoEscape", "internal/bytealg.MakeNoZero", "internal/bytealg.CountString", "internal/bytealg.IndexByteString", "internal/bytealg.IndexString"], unfollowed := true, recurses := true, named := ["blueline/size.units", "unicode/utf8.first", "unicode/utf8.acceptRanges", "internal/bytealg.MaxLen"], apart := false, laid := [("unicode/utf8.acceptRanges", laid_unicode_utf8_acceptRanges), ("blueline/size.units", laid_blueline_size_units), ("unicode/utf8.first", laid_unicode_utf8_first)] }
def SizeReadSaid : Prop := sizeReadRow.holds Tryd.pinned (OpenSpec.ofChange sizeReadSpec)

/-- ITS FALSE NEIGHBOUR: 'it returns false'. Refute it at one input. -/
def sizeReadWrong : ChangeSpec := { name := "sizeRead", fn := fun _ => fun
  | [d1, d2, d3] => { results := [.lit (.bool false)], args := [d1, d2, d3] }
  | _ => none }
def SizeReadWrongFalsely : Prop := sizeReadRow.holds Tryd.pinned (OpenSpec.ofChange sizeReadWrong)

/-- 'bluelinelaw01.SizeFitted': WHATEVER THE INPUT: true; the input reads as it did. -/
def sizeFittedSpec : ChangeSpec := { name := "sizeFitted", fn := fun _ => fun
  | [d1, d2, d3, d4] => { results := [.lit (.bool true)], args := [d1, d2, d3, d4] }
  | _ => none }
def sizeFittedRow : OpenClaim := { program := "ytikjooemblpnbaadoor", sum := "0414c67cc37997468d916039f5943235d55bd6157517574a71a51afcc4f9b653", func := "blueline/bluelinelaw01.SizeFitted", spec := "sizeFitted", inPlace := ["internal/abi.NoEscape", "internal/bytealg.MakeNoZero", "internal/bytealg.CountString", "internal/bytealg.IndexByteString", "internal/bytealg.IndexString"], unfollowed := true, recurses := true, named := ["blueline/size.units", "unicode/utf8.first", "unicode/utf8.acceptRanges", "internal/bytealg.MaxLen"], apart := false, laid := [("unicode/utf8.acceptRanges", laid_unicode_utf8_acceptRanges), ("blueline/size.units", laid_blueline_size_units), ("unicode/utf8.first", laid_unicode_utf8_first)] }
def SizeFittedSaid : Prop := sizeFittedRow.holds Tryd.pinned (OpenSpec.ofChange sizeFittedSpec)

/-- ITS FALSE NEIGHBOUR: 'it returns false'. Refute it at one input. -/
def sizeFittedWrong : ChangeSpec := { name := "sizeFitted", fn := fun _ => fun
  | [d1, d2, d3, d4] => { results := [.lit (.bool false)], args := [d1, d2, d3, d4] }
  | _ => none }
def SizeFittedWrongFalsely : Prop := sizeFittedRow.holds Tryd.pinned (OpenSpec.ofChange sizeFittedWrong)

/-- 'bluelinelaw01.SizeRedrawn': WHATEVER THE INPUT: true; the input reads as it did. -/
def sizeRedrawnSpec : ChangeSpec := { name := "sizeRedrawn", fn := fun _ => fun
  | [d1, d2, d3, d4] => { results := [.lit (.bool true)], args := [d1, d2, d3, d4] }
  | _ => none }
def sizeRedrawnRow : OpenClaim := { program := "ytikjooemblpnbaadoor", sum := "0414c67cc37997468d916039f5943235d55bd6157517574a71a51afcc4f9b653", func := "blueline/bluelinelaw01.SizeRedrawn", spec := "sizeRedrawn", inPlace := ["internal/abi.NoEscape", "internal/bytealg.MakeNoZero", "internal/bytealg.CountString", "internal/bytealg.IndexByteString", "internal/bytealg.IndexString"], unfollowed := true, recurses := true, named := ["blueline/size.units", "unicode/utf8.first", "unicode/utf8.acceptRanges", "internal/bytealg.MaxLen"], apart := false, laid := [("unicode/utf8.acceptRanges", laid_unicode_utf8_acceptRanges), ("blueline/size.units", laid_blueline_size_units), ("unicode/utf8.first", laid_unicode_utf8_first)] }
def SizeRedrawnSaid : Prop := sizeRedrawnRow.holds Tryd.pinned (OpenSpec.ofChange sizeRedrawnSpec)

/-- ITS FALSE NEIGHBOUR: 'it returns false'. Refute it at one input. -/
def sizeRedrawnWrong : ChangeSpec := { name := "sizeRedrawn", fn := fun _ => fun
  | [d1, d2, d3, d4] => { results := [.lit (.bool false)], args := [d1, d2, d3, d4] }
  | _ => none }
def SizeRedrawnWrongFalsely : Prop := sizeRedrawnRow.holds Tryd.pinned (OpenSpec.ofChange sizeRedrawnWrong)

/-- 'bluelinelaw01.SizeRoom': WHATEVER THE INPUT: true; the input reads as it did. -/
def sizeRoomSpec : ChangeSpec := { name := "sizeRoom", fn := fun _ => fun
  | [d1, d2, d3] => { results := [.lit (.bool true)], args := [d1, d2, d3] }
  | _ => none }
def sizeRoomRow : OpenClaim := { program := "ytikjooemblpnbaadoor", sum := "0414c67cc37997468d916039f5943235d55bd6157517574a71a51afcc4f9b653", func := "blueline/bluelinelaw01.SizeRoom", spec := "sizeRoom", inPlace := ["internal/abi.NoEscape", "internal/bytealg.MakeNoZero", "internal/bytealg.CountString", "internal/bytealg.IndexByteString", "internal/bytealg.IndexString"], unfollowed := true, recurses := true, named := ["blueline/size.units", "unicode/utf8.first", "unicode/utf8.acceptRanges", "internal/bytealg.MaxLen"], apart := false, laid := [("unicode/utf8.acceptRanges", laid_unicode_utf8_acceptRanges), ("blueline/size.units", laid_blueline_size_units), ("unicode/utf8.first", laid_unicode_utf8_first)] }
def SizeRoomSaid : Prop := sizeRoomRow.holds Tryd.pinned (OpenSpec.ofChange sizeRoomSpec)

/-- ITS FALSE NEIGHBOUR: 'it returns false'. Refute it at one input. -/
def sizeRoomWrong : ChangeSpec := { name := "sizeRoom", fn := fun _ => fun
  | [d1, d2, d3] => { results := [.lit (.bool false)], args := [d1, d2, d3] }
  | _ => none }
def SizeRoomWrongFalsely : Prop := sizeRoomRow.holds Tryd.pinned (OpenSpec.ofChange sizeRoomWrong)

/-- 'bluelinelaw01.SizeShared': WHATEVER THE INPUT: true; the input reads as it did. -/
def sizeSharedSpec : ChangeSpec := { name := "sizeShared", fn := fun _ => fun
  | [d1, d2, d3] => { results := [.lit (.bool true)], args := [d1, d2, d3] }
  | _ => none }
def sizeSharedRow : OpenClaim := { program := "ytikjooemblpnbaadoor", sum := "0414c67cc37997468d916039f5943235d55bd6157517574a71a51afcc4f9b653", func := "blueline/bluelinelaw01.SizeShared", spec := "sizeShared", inPlace := ["internal/abi.NoEscape", "internal/bytealg.MakeNoZero", "internal/bytealg.CountString", "internal/bytealg.IndexByteString", "internal/bytealg.IndexString"], unfollowed := true, recurses := true, named := ["blueline/size.units", "unicode/utf8.first", "unicode/utf8.acceptRanges", "internal/bytealg.MaxLen"], apart := false, laid := [("unicode/utf8.acceptRanges", laid_unicode_utf8_acceptRanges), ("blueline/size.units", laid_blueline_size_units), ("unicode/utf8.first", laid_unicode_utf8_first)] }
def SizeSharedSaid : Prop := sizeSharedRow.holds Tryd.pinned (OpenSpec.ofChange sizeSharedSpec)

/-- ITS FALSE NEIGHBOUR: 'it returns false'. Refute it at one input. -/
def sizeSharedWrong : ChangeSpec := { name := "sizeShared", fn := fun _ => fun
  | [d1, d2, d3] => { results := [.lit (.bool false)], args := [d1, d2, d3] }
  | _ => none }
def SizeSharedWrongFalsely : Prop := sizeSharedRow.holds Tryd.pinned (OpenSpec.ofChange sizeSharedWrong)

/-- 'bluelinelaw01.SizeMeets': WHATEVER THE INPUT: true; the input reads as it did. -/
def sizeMeetsSpec : ChangeSpec := { name := "sizeMeets", fn := fun _ => fun
  | [d1, d2, d3, d4] => { results := [.lit (.bool true)], args := [d1, d2, d3, d4] }
  | _ => none }
def sizeMeetsRow : OpenClaim := { program := "ytikjooemblpnbaadoor", sum := "0414c67cc37997468d916039f5943235d55bd6157517574a71a51afcc4f9b653", func := "blueline/bluelinelaw01.SizeMeets", spec := "sizeMeets", inPlace := ["internal/abi.NoEscape", "internal/bytealg.MakeNoZero", "internal/bytealg.CountString", "internal/bytealg.IndexByteString", "internal/bytealg.IndexString"], unfollowed := true, recurses := true, named := ["blueline/size.units", "unicode/utf8.first", "unicode/utf8.acceptRanges", "internal/bytealg.MaxLen"], apart := false, laid := [("unicode/utf8.acceptRanges", laid_unicode_utf8_acceptRanges), ("blueline/size.units", laid_blueline_size_units), ("unicode/utf8.first", laid_unicode_utf8_first)] }
def SizeMeetsSaid : Prop := sizeMeetsRow.holds Tryd.pinned (OpenSpec.ofChange sizeMeetsSpec)

/-- ITS FALSE NEIGHBOUR: 'it returns false'. Refute it at one input. -/
def sizeMeetsWrong : ChangeSpec := { name := "sizeMeets", fn := fun _ => fun
  | [d1, d2, d3, d4] => { results := [.lit (.bool false)], args := [d1, d2, d3, d4] }
  | _ => none }
def SizeMeetsWrongFalsely : Prop := sizeMeetsRow.holds Tryd.pinned (OpenSpec.ofChange sizeMeetsWrong)

/-- 'bluelinelaw01.SizeExamples': WHATEVER THE INPUT: true; the input reads as it did. -/
def sizeExamplesSpec : ChangeSpec := { name := "sizeExamples", fn := fun _ => fun
  | [] => { results := [.lit (.bool true)], args := [] }
  | _ => none }
def sizeExamplesRow : OpenClaim := { program := "ytikjooemblpnbaadoor", sum := "0414c67cc37997468d916039f5943235d55bd6157517574a71a51afcc4f9b653", func := "blueline/bluelinelaw01.SizeExamples", spec := "sizeExamples", inPlace := ["internal/abi.NoEscape", "internal/bytealg.MakeNoZero", "internal/bytealg.CountString", "internal/bytealg.IndexByteString", "internal/bytealg.IndexString"], unfollowed := true, recurses := true, named := ["internal/strconv.uint64pow10", "math/bits.deBruijn32tab", "math/bits.deBruijn64tab", "blueline/size.units", "unicode/utf8.first", "unicode/utf8.acceptRanges", "internal/bytealg.MaxLen"], apart := false, laid := [("math/bits.deBruijn32tab", laid_math_bits_deBruijn32tab), ("math/bits.deBruijn64tab", laid_math_bits_deBruijn64tab), ("internal/strconv.uint64pow10", laid_internal_strconv_uint64pow10), ("unicode/utf8.acceptRanges", laid_unicode_utf8_acceptRanges), ("blueline/size.units", laid_blueline_size_units), ("unicode/utf8.first", laid_unicode_utf8_first)] }
def SizeExamplesSaid : Prop := sizeExamplesRow.holds Tryd.pinned (OpenSpec.ofChange sizeExamplesSpec)

/-- ITS FALSE NEIGHBOUR: 'it returns false'. Refute it at one input. -/
def sizeExamplesWrong : ChangeSpec := { name := "sizeExamples", fn := fun _ => fun
  | [] => { results := [.lit (.bool false)], args := [] }
  | _ => none }
def SizeExamplesWrongFalsely : Prop := sizeExamplesRow.holds Tryd.pinned (OpenSpec.ofChange sizeExamplesWrong)

/- THE SECOND FORM. 'bulk': how many values and letters a reading holds, each counted each time it is reached (what is shared counts as often as it is met; a slice's spare places count too). A statement '..UptoSaid' is the law's where the arguments, and the package variables that the reading takes, are together of bulk at most 1048576: NARROWER than '..Said'. Prove '..Said' where nothing that the law and all that it calls make is longer than what came in: it says more and counts as full. Else prove '..UptoSaid'. A law counts once. -/
mutual
def uptoBulk {H : Type} : DataW H → Nat
  | .lit (.string bytes) => bytes.length + 1
  | .lit _ => 1
  | .nil => 1
  | .ptr d => uptoBulk d + 1
  | .slice elems spare => uptoBulkAll elems + uptoBulkAll spare + 1
  | .agg parts => uptoBulkAll parts + 1
  | .iface _ d => uptoBulk d + 1
  | .map entries => uptoBulkEntries entries + 1
  | .held _ => 1
def uptoBulkAll {H : Type} : List (DataW H) → Nat
  | [] => 0
  | d :: r => uptoBulk d + uptoBulkAll r
def uptoBulkEntries {H : Type} : List (Lit × DataW H) → Nat
  | [] => 0
  | x :: r => uptoBulkEntry x + uptoBulkEntries r
def uptoBulkEntry {H : Type} : Lit × DataW H → Nat
  | (.string bytes, d) => bytes.length + uptoBulk d + 1
  | (_, d) => uptoBulk d + 1
 end
def uptoSmall : (H : Type) → List (DataW H) → Bool := fun _ ds => decide (uptoBulkAll ds ≤ 1048576)
def OpenSpec.upto (s : _root_.Go.ChangeSpec) : _root_.Go.OpenSpec := { _root_.Go.OpenSpec.ofChange s with cond := some uptoSmall }

/-- 'bluelinelaw01.SizeTurns', WHERE WHAT IT READS IS OF BULK AT MOST 1048576: true; the input reads as it did. -/
def sizeTurnsUptoRow : OpenClaim := { program := "ytikjooemblpnbaadoor", sum := "0414c67cc37997468d916039f5943235d55bd6157517574a71a51afcc4f9b653", func := "blueline/bluelinelaw01.SizeTurns", spec := "sizeTurns", unfollowed := true, recurses := true, named := ["blueline/size.units"], apart := false, laid := [("blueline/size.units", laid_blueline_size_units)], narrowed := true }
def SizeTurnsUptoSaid : Prop := sizeTurnsUptoRow.holds Tryd.pinned (OpenSpec.upto sizeTurnsSpec)

/-- 'bluelinelaw01.SizeFits', WHERE WHAT IT READS IS OF BULK AT MOST 1048576: true; the input reads as it did. -/
def sizeFitsUptoRow : OpenClaim := { program := "ytikjooemblpnbaadoor", sum := "0414c67cc37997468d916039f5943235d55bd6157517574a71a51afcc4f9b653", func := "blueline/bluelinelaw01.SizeFits", spec := "sizeFits", unfollowed := true, recurses := true, named := ["blueline/size.units"], apart := false, laid := [("blueline/size.units", laid_blueline_size_units)], narrowed := true }
def SizeFitsUptoSaid : Prop := sizeFitsUptoRow.holds Tryd.pinned (OpenSpec.upto sizeFitsSpec)

/-- 'bluelinelaw01.SizeWrites', WHERE WHAT IT READS IS OF BULK AT MOST 1048576: true; the input reads as it did. -/
def sizeWritesUptoRow : OpenClaim := { program := "ytikjooemblpnbaadoor", sum := "0414c67cc37997468d916039f5943235d55bd6157517574a71a51afcc4f9b653", func := "blueline/bluelinelaw01.SizeWrites", spec := "sizeWrites", inPlace := ["internal/abi.NoEscape", "internal/bytealg.MakeNoZero", "internal/bytealg.CountString", "internal/bytealg.IndexByteString", "internal/bytealg.IndexString"], unfollowed := true, recurses := true, named := ["blueline/size.units", "unicode/utf8.first", "unicode/utf8.acceptRanges", "internal/bytealg.MaxLen"], apart := false, laid := [("unicode/utf8.acceptRanges", laid_unicode_utf8_acceptRanges), ("blueline/size.units", laid_blueline_size_units), ("unicode/utf8.first", laid_unicode_utf8_first)], narrowed := true }
def SizeWritesUptoSaid : Prop := sizeWritesUptoRow.holds Tryd.pinned (OpenSpec.upto sizeWritesSpec)

/-- 'bluelinelaw01.SizeInside', WHERE WHAT IT READS IS OF BULK AT MOST 1048576: true; the input reads as it did. -/
def sizeInsideUptoRow : OpenClaim := { program := "ytikjooemblpnbaadoor", sum := "0414c67cc37997468d916039f5943235d55bd6157517574a71a51afcc4f9b653", func := "blueline/bluelinelaw01.SizeInside", spec := "sizeInside", inPlace := ["internal/abi.NoEscape", "internal/bytealg.MakeNoZero", "internal/bytealg.CountString", "internal/bytealg.IndexByteString", "internal/bytealg.IndexString"], unfollowed := true, recurses := true, named := ["blueline/size.units", "unicode/utf8.first", "unicode/utf8.acceptRanges", "internal/bytealg.MaxLen"], apart := false, laid := [("unicode/utf8.acceptRanges", laid_unicode_utf8_acceptRanges), ("blueline/size.units", laid_blueline_size_units), ("unicode/utf8.first", laid_unicode_utf8_first)], narrowed := true }
def SizeInsideUptoSaid : Prop := sizeInsideUptoRow.holds Tryd.pinned (OpenSpec.upto sizeInsideSpec)

/-- 'bluelinelaw01.SizeNever', WHERE WHAT IT READS IS OF BULK AT MOST 1048576: true; the input reads as it did. -/
def sizeNeverUptoRow : OpenClaim := { program := "ytikjooemblpnbaadoor", sum := "0414c67cc37997468d916039f5943235d55bd6157517574a71a51afcc4f9b653", func := "blueline/bluelinelaw01.SizeNever", spec := "sizeNever", inPlace := ["internal/abi.NoEscape", "internal/bytealg.MakeNoZero", "internal/bytealg.CountString", "internal/bytealg.IndexByteString", "internal/bytealg.IndexString"], unfollowed := true, recurses := true, named := ["blueline/size.units", "unicode/utf8.first", "unicode/utf8.acceptRanges", "internal/bytealg.MaxLen"], apart := false, laid := [("unicode/utf8.acceptRanges", laid_unicode_utf8_acceptRanges), ("blueline/size.units", laid_blueline_size_units), ("unicode/utf8.first", laid_unicode_utf8_first)], narrowed := true }
def SizeNeverUptoSaid : Prop := sizeNeverUptoRow.holds Tryd.pinned (OpenSpec.upto sizeNeverSpec)

/-- 'bluelinelaw01.SizeBoth', WHERE WHAT IT READS IS OF BULK AT MOST 1048576: true; the input reads as it did. -/
def sizeBothUptoRow : OpenClaim := { program := "ytikjooemblpnbaadoor", sum := "0414c67cc37997468d916039f5943235d55bd6157517574a71a51afcc4f9b653", func := "blueline/bluelinelaw01.SizeBoth", spec := "sizeBoth", inPlace := ["internal/abi.NoEscape", "internal/bytealg.MakeNoZero", "internal/bytealg.CountString", "internal/bytealg.IndexByteString", "internal/bytealg.IndexString"], unfollowed := true, recurses := true, named := ["blueline/size.units", "unicode/utf8.first", "unicode/utf8.acceptRanges", "internal/bytealg.MaxLen"], apart := false, laid := [("unicode/utf8.acceptRanges", laid_unicode_utf8_acceptRanges), ("blueline/size.units", laid_blueline_size_units), ("unicode/utf8.first", laid_unicode_utf8_first)], narrowed := true }
def SizeBothUptoSaid : Prop := sizeBothUptoRow.holds Tryd.pinned (OpenSpec.upto sizeBothSpec)

/-- 'bluelinelaw01.SizeRead', WHERE WHAT IT READS IS OF BULK AT MOST 1048576: true; the input reads as it did. -/
def sizeReadUptoRow : OpenClaim := { program := "ytikjooemblpnbaadoor", sum := "0414c67cc37997468d916039f5943235d55bd6157517574a71a51afcc4f9b653", func := "blueline/bluelinelaw01.SizeRead", spec := "sizeRead", inPlace := ["internal/abi.NoEscape", "internal/bytealg.MakeNoZero", "internal/bytealg.CountString", "internal/bytealg.IndexByteString", "internal/bytealg.IndexString"], unfollowed := true, recurses := true, named := ["blueline/size.units", "unicode/utf8.first", "unicode/utf8.acceptRanges", "internal/bytealg.MaxLen"], apart := false, laid := [("unicode/utf8.acceptRanges", laid_unicode_utf8_acceptRanges), ("blueline/size.units", laid_blueline_size_units), ("unicode/utf8.first", laid_unicode_utf8_first)], narrowed := true }
def SizeReadUptoSaid : Prop := sizeReadUptoRow.holds Tryd.pinned (OpenSpec.upto sizeReadSpec)

/-- 'bluelinelaw01.SizeFitted', WHERE WHAT IT READS IS OF BULK AT MOST 1048576: true; the input reads as it did. -/
def sizeFittedUptoRow : OpenClaim := { program := "ytikjooemblpnbaadoor", sum := "0414c67cc37997468d916039f5943235d55bd6157517574a71a51afcc4f9b653", func := "blueline/bluelinelaw01.SizeFitted", spec := "sizeFitted", inPlace := ["internal/abi.NoEscape", "internal/bytealg.MakeNoZero", "internal/bytealg.CountString", "internal/bytealg.IndexByteString", "internal/bytealg.IndexString"], unfollowed := true, recurses := true, named := ["blueline/size.units", "unicode/utf8.first", "unicode/utf8.acceptRanges", "internal/bytealg.MaxLen"], apart := false, laid := [("unicode/utf8.acceptRanges", laid_unicode_utf8_acceptRanges), ("blueline/size.units", laid_blueline_size_units), ("unicode/utf8.first", laid_unicode_utf8_first)], narrowed := true }
def SizeFittedUptoSaid : Prop := sizeFittedUptoRow.holds Tryd.pinned (OpenSpec.upto sizeFittedSpec)

/-- 'bluelinelaw01.SizeRedrawn', WHERE WHAT IT READS IS OF BULK AT MOST 1048576: true; the input reads as it did. -/
def sizeRedrawnUptoRow : OpenClaim := { program := "ytikjooemblpnbaadoor", sum := "0414c67cc37997468d916039f5943235d55bd6157517574a71a51afcc4f9b653", func := "blueline/bluelinelaw01.SizeRedrawn", spec := "sizeRedrawn", inPlace := ["internal/abi.NoEscape", "internal/bytealg.MakeNoZero", "internal/bytealg.CountString", "internal/bytealg.IndexByteString", "internal/bytealg.IndexString"], unfollowed := true, recurses := true, named := ["blueline/size.units", "unicode/utf8.first", "unicode/utf8.acceptRanges", "internal/bytealg.MaxLen"], apart := false, laid := [("unicode/utf8.acceptRanges", laid_unicode_utf8_acceptRanges), ("blueline/size.units", laid_blueline_size_units), ("unicode/utf8.first", laid_unicode_utf8_first)], narrowed := true }
def SizeRedrawnUptoSaid : Prop := sizeRedrawnUptoRow.holds Tryd.pinned (OpenSpec.upto sizeRedrawnSpec)

/-- 'bluelinelaw01.SizeRoom', WHERE WHAT IT READS IS OF BULK AT MOST 1048576: true; the input reads as it did. -/
def sizeRoomUptoRow : OpenClaim := { program := "ytikjooemblpnbaadoor", sum := "0414c67cc37997468d916039f5943235d55bd6157517574a71a51afcc4f9b653", func := "blueline/bluelinelaw01.SizeRoom", spec := "sizeRoom", inPlace := ["internal/abi.NoEscape", "internal/bytealg.MakeNoZero", "internal/bytealg.CountString", "internal/bytealg.IndexByteString", "internal/bytealg.IndexString"], unfollowed := true, recurses := true, named := ["blueline/size.units", "unicode/utf8.first", "unicode/utf8.acceptRanges", "internal/bytealg.MaxLen"], apart := false, laid := [("unicode/utf8.acceptRanges", laid_unicode_utf8_acceptRanges), ("blueline/size.units", laid_blueline_size_units), ("unicode/utf8.first", laid_unicode_utf8_first)], narrowed := true }
def SizeRoomUptoSaid : Prop := sizeRoomUptoRow.holds Tryd.pinned (OpenSpec.upto sizeRoomSpec)

/-- 'bluelinelaw01.SizeShared', WHERE WHAT IT READS IS OF BULK AT MOST 1048576: true; the input reads as it did. -/
def sizeSharedUptoRow : OpenClaim := { program := "ytikjooemblpnbaadoor", sum := "0414c67cc37997468d916039f5943235d55bd6157517574a71a51afcc4f9b653", func := "blueline/bluelinelaw01.SizeShared", spec := "sizeShared", inPlace := ["internal/abi.NoEscape", "internal/bytealg.MakeNoZero", "internal/bytealg.CountString", "internal/bytealg.IndexByteString", "internal/bytealg.IndexString"], unfollowed := true, recurses := true, named := ["blueline/size.units", "unicode/utf8.first", "unicode/utf8.acceptRanges", "internal/bytealg.MaxLen"], apart := false, laid := [("unicode/utf8.acceptRanges", laid_unicode_utf8_acceptRanges), ("blueline/size.units", laid_blueline_size_units), ("unicode/utf8.first", laid_unicode_utf8_first)], narrowed := true }
def SizeSharedUptoSaid : Prop := sizeSharedUptoRow.holds Tryd.pinned (OpenSpec.upto sizeSharedSpec)

/-- 'bluelinelaw01.SizeMeets', WHERE WHAT IT READS IS OF BULK AT MOST 1048576: true; the input reads as it did. -/
def sizeMeetsUptoRow : OpenClaim := { program := "ytikjooemblpnbaadoor", sum := "0414c67cc37997468d916039f5943235d55bd6157517574a71a51afcc4f9b653", func := "blueline/bluelinelaw01.SizeMeets", spec := "sizeMeets", inPlace := ["internal/abi.NoEscape", "internal/bytealg.MakeNoZero", "internal/bytealg.CountString", "internal/bytealg.IndexByteString", "internal/bytealg.IndexString"], unfollowed := true, recurses := true, named := ["blueline/size.units", "unicode/utf8.first", "unicode/utf8.acceptRanges", "internal/bytealg.MaxLen"], apart := false, laid := [("unicode/utf8.acceptRanges", laid_unicode_utf8_acceptRanges), ("blueline/size.units", laid_blueline_size_units), ("unicode/utf8.first", laid_unicode_utf8_first)], narrowed := true }
def SizeMeetsUptoSaid : Prop := sizeMeetsUptoRow.holds Tryd.pinned (OpenSpec.upto sizeMeetsSpec)

/-- 'bluelinelaw01.SizeExamples', WHERE WHAT IT READS IS OF BULK AT MOST 1048576: true; the input reads as it did. -/
def sizeExamplesUptoRow : OpenClaim := { program := "ytikjooemblpnbaadoor", sum := "0414c67cc37997468d916039f5943235d55bd6157517574a71a51afcc4f9b653", func := "blueline/bluelinelaw01.SizeExamples", spec := "sizeExamples", inPlace := ["internal/abi.NoEscape", "internal/bytealg.MakeNoZero", "internal/bytealg.CountString", "internal/bytealg.IndexByteString", "internal/bytealg.IndexString"], unfollowed := true, recurses := true, named := ["internal/strconv.uint64pow10", "math/bits.deBruijn32tab", "math/bits.deBruijn64tab", "blueline/size.units", "unicode/utf8.first", "unicode/utf8.acceptRanges", "internal/bytealg.MaxLen"], apart := false, laid := [("math/bits.deBruijn32tab", laid_math_bits_deBruijn32tab), ("math/bits.deBruijn64tab", laid_math_bits_deBruijn64tab), ("internal/strconv.uint64pow10", laid_internal_strconv_uint64pow10), ("unicode/utf8.acceptRanges", laid_unicode_utf8_acceptRanges), ("blueline/size.units", laid_blueline_size_units), ("unicode/utf8.first", laid_unicode_utf8_first)], narrowed := true }
def SizeExamplesUptoSaid : Prop := sizeExamplesUptoRow.holds Tryd.pinned (OpenSpec.upto sizeExamplesSpec)

end Rows
end Go.Proofs.YtikjooemblpnbaaDoor
