/-
  NARROWER THAN 'FOR EVERY INPUT', by the rows' own cells (each row's printed sentence says how): ProofsProof: laid · ProofsCheck: laid · ProofsBack: laid · TilesTell: laid · TilesFull: laid · TilesNone: laid · ExtractTotal: laid · TilesLater: laid · RangesPart: laid · RangesFull: laid · RangesTell: laid · RangesSame: laid · TilesProve: laid · StageRaw: laid · StagePlay: laid · ServeTell: laid · ServeProves: laid · PublishNone: laid · PublishHeads: laid · ExtractTell: laid.
  DERIVED. THE GIVEN ROWS OF THIS SEAT. 20 by the template 'for every input the law returns true; each argument reads behind the call as it read before'; 0 by the template 'total and deterministic' (their statements: YtjkfeonbioccmaaDoorTotals.lean).
  GIVEN WITH THE SEED: the statements are not yours to turn. If you find one false, say at which input.
  Laid BY PROGRAM, IN A SANDBOX (cutbox-rows.mjs): the forced cells as the released guide's own fill.sh prints them over the translation 09b5efba60758b3a… (all of the seat's roots in one cut). By AI agents, Wed Nov 11 2026. No macro, syntax, notation, axiom, sorry.
-/
import Derived.Test.YtjkfeonbioccmaaDoorChecked
import GoSem.Claim
import GoSem.ClaimJoined
import GoSem.ClaimMapViews
import Derived.JoinedTies
import Derived.KernelRfl
namespace Go.Proofs.YtjkfeonbioccmaaDoor
/- THE CELL 'sum', in the pinned program and in every row, IS THE sha256 OF THE DUMP (.gsa) THAT YtjkfeonbioccmaaDoorProg.lean LOADS. Nothing in Lean hashes anything: it is a label: what it is worth is what the hold of that sum in a sandbox is worth. -/
noncomputable def Tryd.pinned : Pinned := { name := "ytjkfeonbioccmaadoor", sum := "09b5efba60758b3a3687c47e7a9c605839e3a6b417982c04b166c591e095aa45", checked := Tryd.checked }
namespace Rows
def none {H : Type} : Left H := { results := [], args := [] }

/- WHAT THE LISTED PACKAGE-LEVEL VARIABLES READ AS WHEN THE CALL BEGINS. Each datum BY PROGRAM (the guide's laid-datum.mjs) off the statement by which the dump's own 'gosem.cut.vars' lays the variable. In a bare row this is a premise. The card (YtjkfeonbioccmaaDoorCards.lean) ties it to the program's text. -/
def laid_speculum_sha_first {H : Type} : DataW H := .agg [.lit (.int .u32 1779033703), .lit (.int .u32 3144134277), .lit (.int .u32 1013904242), .lit (.int .u32 2773480762), .lit (.int .u32 1359893119), .lit (.int .u32 2600822924), .lit (.int .u32 528734635), .lit (.int .u32 1541459225)]
def laid_speculum_sha_rounds {H : Type} : DataW H := .agg [.lit (.int .u32 1116352408), .lit (.int .u32 1899447441), .lit (.int .u32 3049323471), .lit (.int .u32 3921009573), .lit (.int .u32 961987163), .lit (.int .u32 1508970993), .lit (.int .u32 2453635748), .lit (.int .u32 2870763221), .lit (.int .u32 3624381080), .lit (.int .u32 310598401), .lit (.int .u32 607225278), .lit (.int .u32 1426881987), .lit (.int .u32 1925078388), .lit (.int .u32 2162078206), .lit (.int .u32 2614888103), .lit (.int .u32 3248222580), .lit (.int .u32 3835390401), .lit (.int .u32 4022224774), .lit (.int .u32 264347078), .lit (.int .u32 604807628), .lit (.int .u32 770255983), .lit (.int .u32 1249150122), .lit (.int .u32 1555081692), .lit (.int .u32 1996064986), .lit (.int .u32 2554220882), .lit (.int .u32 2821834349), .lit (.int .u32 2952996808), .lit (.int .u32 3210313671), .lit (.int .u32 3336571891), .lit (.int .u32 3584528711), .lit (.int .u32 113926993), .lit (.int .u32 338241895), .lit (.int .u32 666307205), .lit (.int .u32 773529912), .lit (.int .u32 1294757372), .lit (.int .u32 1396182291), .lit (.int .u32 1695183700), .lit (.int .u32 1986661051), .lit (.int .u32 2177026350), .lit (.int .u32 2456956037), .lit (.int .u32 2730485921), .lit (.int .u32 2820302411), .lit (.int .u32 3259730800), .lit (.int .u32 3345764771), .lit (.int .u32 3516065817), .lit (.int .u32 3600352804), .lit (.int .u32 4094571909), .lit (.int .u32 275423344), .lit (.int .u32 430227734), .lit (.int .u32 506948616), .lit (.int .u32 659060556), .lit (.int .u32 883997877), .lit (.int .u32 958139571), .lit (.int .u32 1322822218), .lit (.int .u32 1537002063), .lit (.int .u32 1747873779), .lit (.int .u32 1955562222), .lit (.int .u32 2024104815), .lit (.int .u32 2227730452), .lit (.int .u32 2361852424), .lit (.int .u32 2428436474), .lit (.int .u32 2756734187), .lit (.int .u32 3204031479), .lit (.int .u32 3329325298)]

/-- 'speculumlaw07.ProofsProof': WHATEVER THE INPUT: true; the input reads as it did. -/
def proofsProofSpec : ChangeSpec := { name := "proofsProof", fn := fun _ => fun
  | [d1, d2] => { results := [.lit (.bool true)], args := [d1, d2] }
  | _ => none }
def proofsProofRow : OpenClaim := { program := "ytjkfeonbioccmaadoor", sum := "09b5efba60758b3a3687c47e7a9c605839e3a6b417982c04b166c591e095aa45", func := "speculum/speculumlaw07.ProofsProof", spec := "proofsProof", inPlace := ["internal/abi.NoEscape", "internal/bytealg.MakeNoZero"], unfollowed := true, recurses := true, named := ["speculum/sha.first", "speculum/sha.rounds"], plainKeys := false, apart := false, laid := [("speculum/sha.first", laid_speculum_sha_first), ("speculum/sha.rounds", laid_speculum_sha_rounds)] }
def ProofsProofSaid : Prop := proofsProofRow.holds Tryd.pinned (OpenSpec.ofChange proofsProofSpec)

/-- ITS FALSE NEIGHBOUR: 'it returns false'. Refute it at one input. -/
def proofsProofWrong : ChangeSpec := { name := "proofsProof", fn := fun _ => fun
  | [d1, d2] => { results := [.lit (.bool false)], args := [d1, d2] }
  | _ => none }
def ProofsProofWrongFalsely : Prop := proofsProofRow.holds Tryd.pinned (OpenSpec.ofChange proofsProofWrong)

/-- 'speculumlaw07.ProofsCheck': WHATEVER THE INPUT: true; the input reads as it did. -/
def proofsCheckSpec : ChangeSpec := { name := "proofsCheck", fn := fun _ => fun
  | [d1, d2] => { results := [.lit (.bool true)], args := [d1, d2] }
  | _ => none }
def proofsCheckRow : OpenClaim := { program := "ytjkfeonbioccmaadoor", sum := "09b5efba60758b3a3687c47e7a9c605839e3a6b417982c04b166c591e095aa45", func := "speculum/speculumlaw07.ProofsCheck", spec := "proofsCheck", inPlace := ["internal/abi.NoEscape", "internal/bytealg.MakeNoZero"], unfollowed := true, recurses := true, named := ["speculum/sha.first", "speculum/sha.rounds"], plainKeys := false, apart := false, laid := [("speculum/sha.first", laid_speculum_sha_first), ("speculum/sha.rounds", laid_speculum_sha_rounds)] }
def ProofsCheckSaid : Prop := proofsCheckRow.holds Tryd.pinned (OpenSpec.ofChange proofsCheckSpec)

/-- ITS FALSE NEIGHBOUR: 'it returns false'. Refute it at one input. -/
def proofsCheckWrong : ChangeSpec := { name := "proofsCheck", fn := fun _ => fun
  | [d1, d2] => { results := [.lit (.bool false)], args := [d1, d2] }
  | _ => none }
def ProofsCheckWrongFalsely : Prop := proofsCheckRow.holds Tryd.pinned (OpenSpec.ofChange proofsCheckWrong)

/-- 'speculumlaw07.ProofsBack': WHATEVER THE INPUT: true; the input reads as it did. -/
def proofsBackSpec : ChangeSpec := { name := "proofsBack", fn := fun _ => fun
  | [d1, d2] => { results := [.lit (.bool true)], args := [d1, d2] }
  | _ => none }
def proofsBackRow : OpenClaim := { program := "ytjkfeonbioccmaadoor", sum := "09b5efba60758b3a3687c47e7a9c605839e3a6b417982c04b166c591e095aa45", func := "speculum/speculumlaw07.ProofsBack", spec := "proofsBack", inPlace := ["internal/abi.NoEscape", "internal/bytealg.MakeNoZero"], unfollowed := true, recurses := true, named := ["speculum/sha.first", "speculum/sha.rounds"], plainKeys := false, apart := false, laid := [("speculum/sha.first", laid_speculum_sha_first), ("speculum/sha.rounds", laid_speculum_sha_rounds)] }
def ProofsBackSaid : Prop := proofsBackRow.holds Tryd.pinned (OpenSpec.ofChange proofsBackSpec)

/-- ITS FALSE NEIGHBOUR: 'it returns false'. Refute it at one input. -/
def proofsBackWrong : ChangeSpec := { name := "proofsBack", fn := fun _ => fun
  | [d1, d2] => { results := [.lit (.bool false)], args := [d1, d2] }
  | _ => none }
def ProofsBackWrongFalsely : Prop := proofsBackRow.holds Tryd.pinned (OpenSpec.ofChange proofsBackWrong)

/-- 'speculumlaw14.TilesTell': WHATEVER THE INPUT: true; the input reads as it did. -/
def tilesTellSpec : ChangeSpec := { name := "tilesTell", fn := fun _ => fun
  | [d1, d2] => { results := [.lit (.bool true)], args := [d1, d2] }
  | _ => none }
def tilesTellRow : OpenClaim := { program := "ytjkfeonbioccmaadoor", sum := "09b5efba60758b3a3687c47e7a9c605839e3a6b417982c04b166c591e095aa45", func := "speculum/speculumlaw14.TilesTell", spec := "tilesTell", inPlace := ["internal/abi.NoEscape", "internal/bytealg.MakeNoZero"], unfollowed := true, recurses := true, named := ["speculum/sha.first", "speculum/sha.rounds"], plainKeys := false, apart := false, laid := [("speculum/sha.first", laid_speculum_sha_first), ("speculum/sha.rounds", laid_speculum_sha_rounds)] }
def TilesTellSaid : Prop := tilesTellRow.holds Tryd.pinned (OpenSpec.ofChange tilesTellSpec)

/-- ITS FALSE NEIGHBOUR: 'it returns false'. Refute it at one input. -/
def tilesTellWrong : ChangeSpec := { name := "tilesTell", fn := fun _ => fun
  | [d1, d2] => { results := [.lit (.bool false)], args := [d1, d2] }
  | _ => none }
def TilesTellWrongFalsely : Prop := tilesTellRow.holds Tryd.pinned (OpenSpec.ofChange tilesTellWrong)

/-- 'speculumlaw14.TilesFull': WHATEVER THE INPUT: true; the input reads as it did. -/
def tilesFullSpec : ChangeSpec := { name := "tilesFull", fn := fun _ => fun
  | [d1, d2] => { results := [.lit (.bool true)], args := [d1, d2] }
  | _ => none }
def tilesFullRow : OpenClaim := { program := "ytjkfeonbioccmaadoor", sum := "09b5efba60758b3a3687c47e7a9c605839e3a6b417982c04b166c591e095aa45", func := "speculum/speculumlaw14.TilesFull", spec := "tilesFull", inPlace := ["internal/abi.NoEscape", "internal/bytealg.MakeNoZero"], unfollowed := true, recurses := true, named := ["speculum/sha.first", "speculum/sha.rounds"], plainKeys := false, apart := false, laid := [("speculum/sha.first", laid_speculum_sha_first), ("speculum/sha.rounds", laid_speculum_sha_rounds)] }
def TilesFullSaid : Prop := tilesFullRow.holds Tryd.pinned (OpenSpec.ofChange tilesFullSpec)

/-- ITS FALSE NEIGHBOUR: 'it returns false'. Refute it at one input. -/
def tilesFullWrong : ChangeSpec := { name := "tilesFull", fn := fun _ => fun
  | [d1, d2] => { results := [.lit (.bool false)], args := [d1, d2] }
  | _ => none }
def TilesFullWrongFalsely : Prop := tilesFullRow.holds Tryd.pinned (OpenSpec.ofChange tilesFullWrong)

/-- 'speculumlaw14.TilesNone': WHATEVER THE INPUT: true; the input reads as it did. -/
def tilesNoneSpec : ChangeSpec := { name := "tilesNone", fn := fun _ => fun
  | [d1, d2] => { results := [.lit (.bool true)], args := [d1, d2] }
  | _ => none }
def tilesNoneRow : OpenClaim := { program := "ytjkfeonbioccmaadoor", sum := "09b5efba60758b3a3687c47e7a9c605839e3a6b417982c04b166c591e095aa45", func := "speculum/speculumlaw14.TilesNone", spec := "tilesNone", inPlace := ["internal/abi.NoEscape", "internal/bytealg.MakeNoZero", "maps.clone"], unfollowed := true, recurses := true, named := ["speculum/sha.first", "speculum/sha.rounds"], plainKeys := false, apart := false, laid := [("speculum/sha.first", laid_speculum_sha_first), ("speculum/sha.rounds", laid_speculum_sha_rounds)] }
def TilesNoneSaid : Prop := tilesNoneRow.holds Tryd.pinned (OpenSpec.ofChange tilesNoneSpec)

/-- ITS FALSE NEIGHBOUR: 'it returns false'. Refute it at one input. -/
def tilesNoneWrong : ChangeSpec := { name := "tilesNone", fn := fun _ => fun
  | [d1, d2] => { results := [.lit (.bool false)], args := [d1, d2] }
  | _ => none }
def TilesNoneWrongFalsely : Prop := tilesNoneRow.holds Tryd.pinned (OpenSpec.ofChange tilesNoneWrong)

/-- 'speculumlaw27.ExtractTotal': WHATEVER THE INPUT: true; the input reads as it did. -/
def extractTotalSpec : ChangeSpec := { name := "extractTotal", fn := fun _ => fun
  | [d1, d2, d3] => { results := [.lit (.bool true)], args := [d1, d2, d3] }
  | _ => none }
def extractTotalRow : OpenClaim := { program := "ytjkfeonbioccmaadoor", sum := "09b5efba60758b3a3687c47e7a9c605839e3a6b417982c04b166c591e095aa45", func := "speculum/speculumlaw27.ExtractTotal", spec := "extractTotal", inPlace := ["internal/abi.NoEscape", "internal/bytealg.MakeNoZero"], unfollowed := true, recurses := true, named := ["speculum/sha.first", "speculum/sha.rounds"], plainKeys := false, apart := false, laid := [("speculum/sha.first", laid_speculum_sha_first), ("speculum/sha.rounds", laid_speculum_sha_rounds)] }
def ExtractTotalSaid : Prop := extractTotalRow.holds Tryd.pinned (OpenSpec.ofChange extractTotalSpec)

/-- ITS FALSE NEIGHBOUR: 'it returns false'. Refute it at one input. -/
def extractTotalWrong : ChangeSpec := { name := "extractTotal", fn := fun _ => fun
  | [d1, d2, d3] => { results := [.lit (.bool false)], args := [d1, d2, d3] }
  | _ => none }
def ExtractTotalWrongFalsely : Prop := extractTotalRow.holds Tryd.pinned (OpenSpec.ofChange extractTotalWrong)

/-- 'speculumlaw14.TilesLater': WHATEVER THE INPUT: true; the input reads as it did. -/
def tilesLaterSpec : ChangeSpec := { name := "tilesLater", fn := fun _ => fun
  | [d1, d2, d3] => { results := [.lit (.bool true)], args := [d1, d2, d3] }
  | _ => none }
def tilesLaterRow : OpenClaim := { program := "ytjkfeonbioccmaadoor", sum := "09b5efba60758b3a3687c47e7a9c605839e3a6b417982c04b166c591e095aa45", func := "speculum/speculumlaw14.TilesLater", spec := "tilesLater", inPlace := ["internal/abi.NoEscape", "internal/bytealg.MakeNoZero", "maps.clone"], unfollowed := true, recurses := true, named := ["speculum/sha.first", "speculum/sha.rounds"], plainKeys := false, apart := false, laid := [("speculum/sha.first", laid_speculum_sha_first), ("speculum/sha.rounds", laid_speculum_sha_rounds)] }
def TilesLaterSaid : Prop := tilesLaterRow.holds Tryd.pinned (OpenSpec.ofChange tilesLaterSpec)

/-- ITS FALSE NEIGHBOUR: 'it returns false'. Refute it at one input. -/
def tilesLaterWrong : ChangeSpec := { name := "tilesLater", fn := fun _ => fun
  | [d1, d2, d3] => { results := [.lit (.bool false)], args := [d1, d2, d3] }
  | _ => none }
def TilesLaterWrongFalsely : Prop := tilesLaterRow.holds Tryd.pinned (OpenSpec.ofChange tilesLaterWrong)

/-- 'speculumlaw05.RangesPart': WHATEVER THE INPUT: true; the input reads as it did. -/
def rangesPartSpec : ChangeSpec := { name := "rangesPart", fn := fun _ => fun
  | [d1, d2, d3] => { results := [.lit (.bool true)], args := [d1, d2, d3] }
  | _ => none }
def rangesPartRow : OpenClaim := { program := "ytjkfeonbioccmaadoor", sum := "09b5efba60758b3a3687c47e7a9c605839e3a6b417982c04b166c591e095aa45", func := "speculum/speculumlaw05.RangesPart", spec := "rangesPart", inPlace := ["internal/abi.NoEscape", "internal/bytealg.MakeNoZero"], unfollowed := true, recurses := true, named := ["speculum/sha.first", "speculum/sha.rounds"], plainKeys := false, apart := false, laid := [("speculum/sha.first", laid_speculum_sha_first), ("speculum/sha.rounds", laid_speculum_sha_rounds)] }
def RangesPartSaid : Prop := rangesPartRow.holds Tryd.pinned (OpenSpec.ofChange rangesPartSpec)

/-- ITS FALSE NEIGHBOUR: 'it returns false'. Refute it at one input. -/
def rangesPartWrong : ChangeSpec := { name := "rangesPart", fn := fun _ => fun
  | [d1, d2, d3] => { results := [.lit (.bool false)], args := [d1, d2, d3] }
  | _ => none }
def RangesPartWrongFalsely : Prop := rangesPartRow.holds Tryd.pinned (OpenSpec.ofChange rangesPartWrong)

/-- 'speculumlaw05.RangesFull': WHATEVER THE INPUT: true; the input reads as it did. -/
def rangesFullSpec : ChangeSpec := { name := "rangesFull", fn := fun _ => fun
  | [d1, d2] => { results := [.lit (.bool true)], args := [d1, d2] }
  | _ => none }
def rangesFullRow : OpenClaim := { program := "ytjkfeonbioccmaadoor", sum := "09b5efba60758b3a3687c47e7a9c605839e3a6b417982c04b166c591e095aa45", func := "speculum/speculumlaw05.RangesFull", spec := "rangesFull", inPlace := ["internal/abi.NoEscape", "internal/bytealg.MakeNoZero"], unfollowed := true, recurses := true, named := ["speculum/sha.first", "speculum/sha.rounds"], plainKeys := false, apart := false, laid := [("speculum/sha.first", laid_speculum_sha_first), ("speculum/sha.rounds", laid_speculum_sha_rounds)] }
def RangesFullSaid : Prop := rangesFullRow.holds Tryd.pinned (OpenSpec.ofChange rangesFullSpec)

/-- ITS FALSE NEIGHBOUR: 'it returns false'. Refute it at one input. -/
def rangesFullWrong : ChangeSpec := { name := "rangesFull", fn := fun _ => fun
  | [d1, d2] => { results := [.lit (.bool false)], args := [d1, d2] }
  | _ => none }
def RangesFullWrongFalsely : Prop := rangesFullRow.holds Tryd.pinned (OpenSpec.ofChange rangesFullWrong)

/-- 'speculumlaw05.RangesTell': WHATEVER THE INPUT: true; the input reads as it did. -/
def rangesTellSpec : ChangeSpec := { name := "rangesTell", fn := fun _ => fun
  | [d1, d2, d3] => { results := [.lit (.bool true)], args := [d1, d2, d3] }
  | _ => none }
def rangesTellRow : OpenClaim := { program := "ytjkfeonbioccmaadoor", sum := "09b5efba60758b3a3687c47e7a9c605839e3a6b417982c04b166c591e095aa45", func := "speculum/speculumlaw05.RangesTell", spec := "rangesTell", inPlace := ["internal/abi.NoEscape", "internal/bytealg.MakeNoZero"], unfollowed := true, recurses := true, named := ["speculum/sha.first", "speculum/sha.rounds"], plainKeys := false, apart := false, laid := [("speculum/sha.first", laid_speculum_sha_first), ("speculum/sha.rounds", laid_speculum_sha_rounds)] }
def RangesTellSaid : Prop := rangesTellRow.holds Tryd.pinned (OpenSpec.ofChange rangesTellSpec)

/-- ITS FALSE NEIGHBOUR: 'it returns false'. Refute it at one input. -/
def rangesTellWrong : ChangeSpec := { name := "rangesTell", fn := fun _ => fun
  | [d1, d2, d3] => { results := [.lit (.bool false)], args := [d1, d2, d3] }
  | _ => none }
def RangesTellWrongFalsely : Prop := rangesTellRow.holds Tryd.pinned (OpenSpec.ofChange rangesTellWrong)

/-- 'speculumlaw05.RangesSame': WHATEVER THE INPUT: true; the input reads as it did. -/
def rangesSameSpec : ChangeSpec := { name := "rangesSame", fn := fun _ => fun
  | [d1, d2] => { results := [.lit (.bool true)], args := [d1, d2] }
  | _ => none }
def rangesSameRow : OpenClaim := { program := "ytjkfeonbioccmaadoor", sum := "09b5efba60758b3a3687c47e7a9c605839e3a6b417982c04b166c591e095aa45", func := "speculum/speculumlaw05.RangesSame", spec := "rangesSame", inPlace := ["internal/abi.NoEscape", "internal/bytealg.MakeNoZero"], unfollowed := true, recurses := true, named := ["speculum/sha.first", "speculum/sha.rounds"], plainKeys := false, apart := false, laid := [("speculum/sha.first", laid_speculum_sha_first), ("speculum/sha.rounds", laid_speculum_sha_rounds)] }
def RangesSameSaid : Prop := rangesSameRow.holds Tryd.pinned (OpenSpec.ofChange rangesSameSpec)

/-- ITS FALSE NEIGHBOUR: 'it returns false'. Refute it at one input. -/
def rangesSameWrong : ChangeSpec := { name := "rangesSame", fn := fun _ => fun
  | [d1, d2] => { results := [.lit (.bool false)], args := [d1, d2] }
  | _ => none }
def RangesSameWrongFalsely : Prop := rangesSameRow.holds Tryd.pinned (OpenSpec.ofChange rangesSameWrong)

/-- 'speculumlaw14.TilesProve': WHATEVER THE INPUT: true; the input reads as it did. -/
def tilesProveSpec : ChangeSpec := { name := "tilesProve", fn := fun _ => fun
  | [d1, d2, d3] => { results := [.lit (.bool true)], args := [d1, d2, d3] }
  | _ => none }
def tilesProveRow : OpenClaim := { program := "ytjkfeonbioccmaadoor", sum := "09b5efba60758b3a3687c47e7a9c605839e3a6b417982c04b166c591e095aa45", func := "speculum/speculumlaw14.TilesProve", spec := "tilesProve", inPlace := ["internal/abi.NoEscape", "internal/bytealg.MakeNoZero"], unfollowed := true, recurses := true, named := ["speculum/sha.first", "speculum/sha.rounds"], plainKeys := false, apart := false, laid := [("speculum/sha.first", laid_speculum_sha_first), ("speculum/sha.rounds", laid_speculum_sha_rounds)] }
def TilesProveSaid : Prop := tilesProveRow.holds Tryd.pinned (OpenSpec.ofChange tilesProveSpec)

/-- ITS FALSE NEIGHBOUR: 'it returns false'. Refute it at one input. -/
def tilesProveWrong : ChangeSpec := { name := "tilesProve", fn := fun _ => fun
  | [d1, d2, d3] => { results := [.lit (.bool false)], args := [d1, d2, d3] }
  | _ => none }
def TilesProveWrongFalsely : Prop := tilesProveRow.holds Tryd.pinned (OpenSpec.ofChange tilesProveWrong)

/-- 'speculumlaw25.StageRaw': WHATEVER THE INPUT: true; the input reads as it did. -/
def stageRawSpec : ChangeSpec := { name := "stageRaw", fn := fun _ => fun
  | [d1, d2, d3] => { results := [.lit (.bool true)], args := [d1, d2, d3] }
  | _ => none }
def stageRawRow : OpenClaim := { program := "ytjkfeonbioccmaadoor", sum := "09b5efba60758b3a3687c47e7a9c605839e3a6b417982c04b166c591e095aa45", func := "speculum/speculumlaw25.StageRaw", spec := "stageRaw", inPlace := ["internal/abi.NoEscape", "internal/bytealg.MakeNoZero"], unfollowed := true, recurses := true, named := ["speculum/sha.first", "speculum/sha.rounds"], plainKeys := false, apart := false, laid := [("speculum/sha.first", laid_speculum_sha_first), ("speculum/sha.rounds", laid_speculum_sha_rounds)] }
def StageRawSaid : Prop := stageRawRow.holds Tryd.pinned (OpenSpec.ofChange stageRawSpec)

/-- ITS FALSE NEIGHBOUR: 'it returns false'. Refute it at one input. -/
def stageRawWrong : ChangeSpec := { name := "stageRaw", fn := fun _ => fun
  | [d1, d2, d3] => { results := [.lit (.bool false)], args := [d1, d2, d3] }
  | _ => none }
def StageRawWrongFalsely : Prop := stageRawRow.holds Tryd.pinned (OpenSpec.ofChange stageRawWrong)

/-- 'speculumlaw25.StagePlay': WHATEVER THE INPUT: true; the input reads as it did. -/
def stagePlaySpec : ChangeSpec := { name := "stagePlay", fn := fun _ => fun
  | [d1, d2, d3] => { results := [.lit (.bool true)], args := [d1, d2, d3] }
  | _ => none }
def stagePlayRow : OpenClaim := { program := "ytjkfeonbioccmaadoor", sum := "09b5efba60758b3a3687c47e7a9c605839e3a6b417982c04b166c591e095aa45", func := "speculum/speculumlaw25.StagePlay", spec := "stagePlay", inPlace := ["internal/abi.NoEscape", "internal/bytealg.MakeNoZero"], unfollowed := true, recurses := true, named := ["speculum/sha.first", "speculum/sha.rounds"], plainKeys := false, apart := false, laid := [("speculum/sha.first", laid_speculum_sha_first), ("speculum/sha.rounds", laid_speculum_sha_rounds)] }
def StagePlaySaid : Prop := stagePlayRow.holds Tryd.pinned (OpenSpec.ofChange stagePlaySpec)

/-- ITS FALSE NEIGHBOUR: 'it returns false'. Refute it at one input. -/
def stagePlayWrong : ChangeSpec := { name := "stagePlay", fn := fun _ => fun
  | [d1, d2, d3] => { results := [.lit (.bool false)], args := [d1, d2, d3] }
  | _ => none }
def StagePlayWrongFalsely : Prop := stagePlayRow.holds Tryd.pinned (OpenSpec.ofChange stagePlayWrong)

/-- 'speculumlaw21.ServeTell': WHATEVER THE INPUT: true; the input reads as it did. -/
def serveTellSpec : ChangeSpec := { name := "serveTell", fn := fun _ => fun
  | [d1, d2, d3] => { results := [.lit (.bool true)], args := [d1, d2, d3] }
  | _ => none }
def serveTellRow : OpenClaim := { program := "ytjkfeonbioccmaadoor", sum := "09b5efba60758b3a3687c47e7a9c605839e3a6b417982c04b166c591e095aa45", func := "speculum/speculumlaw21.ServeTell", spec := "serveTell", inPlace := ["internal/abi.NoEscape", "internal/bytealg.MakeNoZero"], unfollowed := true, recurses := true, named := ["speculum/sha.first", "speculum/sha.rounds"], plainKeys := false, apart := false, laid := [("speculum/sha.first", laid_speculum_sha_first), ("speculum/sha.rounds", laid_speculum_sha_rounds)] }
def ServeTellSaid : Prop := serveTellRow.holds Tryd.pinned (OpenSpec.ofChange serveTellSpec)

/-- ITS FALSE NEIGHBOUR: 'it returns false'. Refute it at one input. -/
def serveTellWrong : ChangeSpec := { name := "serveTell", fn := fun _ => fun
  | [d1, d2, d3] => { results := [.lit (.bool false)], args := [d1, d2, d3] }
  | _ => none }
def ServeTellWrongFalsely : Prop := serveTellRow.holds Tryd.pinned (OpenSpec.ofChange serveTellWrong)

/-- 'speculumlaw21.ServeProves': WHATEVER THE INPUT: true; the input reads as it did. -/
def serveProvesSpec : ChangeSpec := { name := "serveProves", fn := fun _ => fun
  | [d1, d2, d3] => { results := [.lit (.bool true)], args := [d1, d2, d3] }
  | _ => none }
def serveProvesRow : OpenClaim := { program := "ytjkfeonbioccmaadoor", sum := "09b5efba60758b3a3687c47e7a9c605839e3a6b417982c04b166c591e095aa45", func := "speculum/speculumlaw21.ServeProves", spec := "serveProves", inPlace := ["internal/abi.NoEscape", "internal/bytealg.MakeNoZero"], unfollowed := true, recurses := true, named := ["speculum/sha.first", "speculum/sha.rounds"], plainKeys := false, apart := false, laid := [("speculum/sha.first", laid_speculum_sha_first), ("speculum/sha.rounds", laid_speculum_sha_rounds)] }
def ServeProvesSaid : Prop := serveProvesRow.holds Tryd.pinned (OpenSpec.ofChange serveProvesSpec)

/-- ITS FALSE NEIGHBOUR: 'it returns false'. Refute it at one input. -/
def serveProvesWrong : ChangeSpec := { name := "serveProves", fn := fun _ => fun
  | [d1, d2, d3] => { results := [.lit (.bool false)], args := [d1, d2, d3] }
  | _ => none }
def ServeProvesWrongFalsely : Prop := serveProvesRow.holds Tryd.pinned (OpenSpec.ofChange serveProvesWrong)

/-- 'speculumlaw22.PublishNone': WHATEVER THE INPUT: true; the input reads as it did. -/
def publishNoneSpec : ChangeSpec := { name := "publishNone", fn := fun _ => fun
  | [d] => { results := [.lit (.bool true)], args := [d] }
  | _ => none }
def publishNoneRow : OpenClaim := { program := "ytjkfeonbioccmaadoor", sum := "09b5efba60758b3a3687c47e7a9c605839e3a6b417982c04b166c591e095aa45", func := "speculum/speculumlaw22.PublishNone", spec := "publishNone", inPlace := ["internal/abi.NoEscape", "internal/bytealg.MakeNoZero"], unfollowed := true, recurses := true, named := ["speculum/sha.first", "speculum/sha.rounds"], plainKeys := false, apart := false, laid := [("speculum/sha.first", laid_speculum_sha_first), ("speculum/sha.rounds", laid_speculum_sha_rounds)] }
def PublishNoneSaid : Prop := publishNoneRow.holds Tryd.pinned (OpenSpec.ofChange publishNoneSpec)

/-- ITS FALSE NEIGHBOUR: 'it returns false'. Refute it at one input. -/
def publishNoneWrong : ChangeSpec := { name := "publishNone", fn := fun _ => fun
  | [d] => { results := [.lit (.bool false)], args := [d] }
  | _ => none }
def PublishNoneWrongFalsely : Prop := publishNoneRow.holds Tryd.pinned (OpenSpec.ofChange publishNoneWrong)

/-- 'speculumlaw22.PublishHeads': WHATEVER THE INPUT: true; the input reads as it did. -/
def publishHeadsSpec : ChangeSpec := { name := "publishHeads", fn := fun _ => fun
  | [d] => { results := [.lit (.bool true)], args := [d] }
  | _ => none }
def publishHeadsRow : OpenClaim := { program := "ytjkfeonbioccmaadoor", sum := "09b5efba60758b3a3687c47e7a9c605839e3a6b417982c04b166c591e095aa45", func := "speculum/speculumlaw22.PublishHeads", spec := "publishHeads", inPlace := ["internal/abi.NoEscape", "internal/bytealg.MakeNoZero"], unfollowed := true, recurses := true, named := ["speculum/sha.first", "speculum/sha.rounds"], plainKeys := false, apart := false, laid := [("speculum/sha.first", laid_speculum_sha_first), ("speculum/sha.rounds", laid_speculum_sha_rounds)] }
def PublishHeadsSaid : Prop := publishHeadsRow.holds Tryd.pinned (OpenSpec.ofChange publishHeadsSpec)

/-- ITS FALSE NEIGHBOUR: 'it returns false'. Refute it at one input. -/
def publishHeadsWrong : ChangeSpec := { name := "publishHeads", fn := fun _ => fun
  | [d] => { results := [.lit (.bool false)], args := [d] }
  | _ => none }
def PublishHeadsWrongFalsely : Prop := publishHeadsRow.holds Tryd.pinned (OpenSpec.ofChange publishHeadsWrong)

/-- 'speculumlaw27.ExtractTell': WHATEVER THE INPUT: true; the input reads as it did. -/
def extractTellSpec : ChangeSpec := { name := "extractTell", fn := fun _ => fun
  | [d1, d2] => { results := [.lit (.bool true)], args := [d1, d2] }
  | _ => none }
def extractTellRow : OpenClaim := { program := "ytjkfeonbioccmaadoor", sum := "09b5efba60758b3a3687c47e7a9c605839e3a6b417982c04b166c591e095aa45", func := "speculum/speculumlaw27.ExtractTell", spec := "extractTell", inPlace := ["internal/abi.NoEscape", "internal/bytealg.MakeNoZero"], unfollowed := true, recurses := true, named := ["speculum/sha.first", "speculum/sha.rounds"], plainKeys := false, apart := false, laid := [("speculum/sha.first", laid_speculum_sha_first), ("speculum/sha.rounds", laid_speculum_sha_rounds)] }
def ExtractTellSaid : Prop := extractTellRow.holds Tryd.pinned (OpenSpec.ofChange extractTellSpec)

/-- ITS FALSE NEIGHBOUR: 'it returns false'. Refute it at one input. -/
def extractTellWrong : ChangeSpec := { name := "extractTell", fn := fun _ => fun
  | [d1, d2] => { results := [.lit (.bool false)], args := [d1, d2] }
  | _ => none }
def ExtractTellWrongFalsely : Prop := extractTellRow.holds Tryd.pinned (OpenSpec.ofChange extractTellWrong)

/- THE SECOND FORM. 'bulk': how many values and letters a reading holds, each counted each time it is reached (what is shared counts as often as it is met; a slice's spare places count too). A statement '..UptoSaid' is the law's where the arguments, and the package variables that the reading takes, are together of bulk at most 1048576: NARROWER than '..Said'. Prove '..Said' where nothing that the law and all that it calls make is longer than what came in: it says more and counts as full. Else prove '..UptoSaid'. A law counts once. -/
mutual
def uptoBulk {H : Type} : DataW H → Nat
  | .lit (.string bytes) => bytes.length + 1
  | .lit _ => 1
  | .nil => 1
  | .ptr d => uptoBulk d + 1
  | .slice elems spare => uptoBulkAll elems + uptoBulkAll spare + 1
  | .agg parts => uptoBulkAll parts + 1
  | .iface _ d => uptoBulk d + 1
  | .map entries => uptoBulkEntries entries + 1
  | .held _ => 1
def uptoBulkAll {H : Type} : List (DataW H) → Nat
  | [] => 0
  | d :: r => uptoBulk d + uptoBulkAll r
def uptoBulkEntries {H : Type} : List (Lit × DataW H) → Nat
  | [] => 0
  | x :: r => uptoBulkEntry x + uptoBulkEntries r
def uptoBulkEntry {H : Type} : Lit × DataW H → Nat
  | (.string bytes, d) => bytes.length + uptoBulk d + 1
  | (_, d) => uptoBulk d + 1
 end
def uptoSmall : (H : Type) → List (DataW H) → Bool := fun _ ds => decide (uptoBulkAll ds ≤ 1048576)
def OpenSpec.upto (s : _root_.Go.ChangeSpec) : _root_.Go.OpenSpec := { _root_.Go.OpenSpec.ofChange s with cond := some uptoSmall }

/-- 'speculumlaw07.ProofsProof', WHERE WHAT IT READS IS OF BULK AT MOST 1048576: true; the input reads as it did. -/
def proofsProofUptoRow : OpenClaim := { program := "ytjkfeonbioccmaadoor", sum := "09b5efba60758b3a3687c47e7a9c605839e3a6b417982c04b166c591e095aa45", func := "speculum/speculumlaw07.ProofsProof", spec := "proofsProof", inPlace := ["internal/abi.NoEscape", "internal/bytealg.MakeNoZero"], unfollowed := true, recurses := true, named := ["speculum/sha.first", "speculum/sha.rounds"], plainKeys := false, apart := false, laid := [("speculum/sha.first", laid_speculum_sha_first), ("speculum/sha.rounds", laid_speculum_sha_rounds)], narrowed := true }
def ProofsProofUptoSaid : Prop := proofsProofUptoRow.holds Tryd.pinned (OpenSpec.upto proofsProofSpec)

/-- 'speculumlaw07.ProofsCheck', WHERE WHAT IT READS IS OF BULK AT MOST 1048576: true; the input reads as it did. -/
def proofsCheckUptoRow : OpenClaim := { program := "ytjkfeonbioccmaadoor", sum := "09b5efba60758b3a3687c47e7a9c605839e3a6b417982c04b166c591e095aa45", func := "speculum/speculumlaw07.ProofsCheck", spec := "proofsCheck", inPlace := ["internal/abi.NoEscape", "internal/bytealg.MakeNoZero"], unfollowed := true, recurses := true, named := ["speculum/sha.first", "speculum/sha.rounds"], plainKeys := false, apart := false, laid := [("speculum/sha.first", laid_speculum_sha_first), ("speculum/sha.rounds", laid_speculum_sha_rounds)], narrowed := true }
def ProofsCheckUptoSaid : Prop := proofsCheckUptoRow.holds Tryd.pinned (OpenSpec.upto proofsCheckSpec)

/-- 'speculumlaw07.ProofsBack', WHERE WHAT IT READS IS OF BULK AT MOST 1048576: true; the input reads as it did. -/
def proofsBackUptoRow : OpenClaim := { program := "ytjkfeonbioccmaadoor", sum := "09b5efba60758b3a3687c47e7a9c605839e3a6b417982c04b166c591e095aa45", func := "speculum/speculumlaw07.ProofsBack", spec := "proofsBack", inPlace := ["internal/abi.NoEscape", "internal/bytealg.MakeNoZero"], unfollowed := true, recurses := true, named := ["speculum/sha.first", "speculum/sha.rounds"], plainKeys := false, apart := false, laid := [("speculum/sha.first", laid_speculum_sha_first), ("speculum/sha.rounds", laid_speculum_sha_rounds)], narrowed := true }
def ProofsBackUptoSaid : Prop := proofsBackUptoRow.holds Tryd.pinned (OpenSpec.upto proofsBackSpec)

/-- 'speculumlaw14.TilesTell', WHERE WHAT IT READS IS OF BULK AT MOST 1048576: true; the input reads as it did. -/
def tilesTellUptoRow : OpenClaim := { program := "ytjkfeonbioccmaadoor", sum := "09b5efba60758b3a3687c47e7a9c605839e3a6b417982c04b166c591e095aa45", func := "speculum/speculumlaw14.TilesTell", spec := "tilesTell", inPlace := ["internal/abi.NoEscape", "internal/bytealg.MakeNoZero"], unfollowed := true, recurses := true, named := ["speculum/sha.first", "speculum/sha.rounds"], plainKeys := false, apart := false, laid := [("speculum/sha.first", laid_speculum_sha_first), ("speculum/sha.rounds", laid_speculum_sha_rounds)], narrowed := true }
def TilesTellUptoSaid : Prop := tilesTellUptoRow.holds Tryd.pinned (OpenSpec.upto tilesTellSpec)

/-- 'speculumlaw14.TilesFull', WHERE WHAT IT READS IS OF BULK AT MOST 1048576: true; the input reads as it did. -/
def tilesFullUptoRow : OpenClaim := { program := "ytjkfeonbioccmaadoor", sum := "09b5efba60758b3a3687c47e7a9c605839e3a6b417982c04b166c591e095aa45", func := "speculum/speculumlaw14.TilesFull", spec := "tilesFull", inPlace := ["internal/abi.NoEscape", "internal/bytealg.MakeNoZero"], unfollowed := true, recurses := true, named := ["speculum/sha.first", "speculum/sha.rounds"], plainKeys := false, apart := false, laid := [("speculum/sha.first", laid_speculum_sha_first), ("speculum/sha.rounds", laid_speculum_sha_rounds)], narrowed := true }
def TilesFullUptoSaid : Prop := tilesFullUptoRow.holds Tryd.pinned (OpenSpec.upto tilesFullSpec)

/-- 'speculumlaw14.TilesNone', WHERE WHAT IT READS IS OF BULK AT MOST 1048576: true; the input reads as it did. -/
def tilesNoneUptoRow : OpenClaim := { program := "ytjkfeonbioccmaadoor", sum := "09b5efba60758b3a3687c47e7a9c605839e3a6b417982c04b166c591e095aa45", func := "speculum/speculumlaw14.TilesNone", spec := "tilesNone", inPlace := ["internal/abi.NoEscape", "internal/bytealg.MakeNoZero", "maps.clone"], unfollowed := true, recurses := true, named := ["speculum/sha.first", "speculum/sha.rounds"], plainKeys := false, apart := false, laid := [("speculum/sha.first", laid_speculum_sha_first), ("speculum/sha.rounds", laid_speculum_sha_rounds)], narrowed := true }
def TilesNoneUptoSaid : Prop := tilesNoneUptoRow.holds Tryd.pinned (OpenSpec.upto tilesNoneSpec)

/-- 'speculumlaw27.ExtractTotal', WHERE WHAT IT READS IS OF BULK AT MOST 1048576: true; the input reads as it did. -/
def extractTotalUptoRow : OpenClaim := { program := "ytjkfeonbioccmaadoor", sum := "09b5efba60758b3a3687c47e7a9c605839e3a6b417982c04b166c591e095aa45", func := "speculum/speculumlaw27.ExtractTotal", spec := "extractTotal", inPlace := ["internal/abi.NoEscape", "internal/bytealg.MakeNoZero"], unfollowed := true, recurses := true, named := ["speculum/sha.first", "speculum/sha.rounds"], plainKeys := false, apart := false, laid := [("speculum/sha.first", laid_speculum_sha_first), ("speculum/sha.rounds", laid_speculum_sha_rounds)], narrowed := true }
def ExtractTotalUptoSaid : Prop := extractTotalUptoRow.holds Tryd.pinned (OpenSpec.upto extractTotalSpec)

/-- 'speculumlaw14.TilesLater', WHERE WHAT IT READS IS OF BULK AT MOST 1048576: true; the input reads as it did. -/
def tilesLaterUptoRow : OpenClaim := { program := "ytjkfeonbioccmaadoor", sum := "09b5efba60758b3a3687c47e7a9c605839e3a6b417982c04b166c591e095aa45", func := "speculum/speculumlaw14.TilesLater", spec := "tilesLater", inPlace := ["internal/abi.NoEscape", "internal/bytealg.MakeNoZero", "maps.clone"], unfollowed := true, recurses := true, named := ["speculum/sha.first", "speculum/sha.rounds"], plainKeys := false, apart := false, laid := [("speculum/sha.first", laid_speculum_sha_first), ("speculum/sha.rounds", laid_speculum_sha_rounds)], narrowed := true }
def TilesLaterUptoSaid : Prop := tilesLaterUptoRow.holds Tryd.pinned (OpenSpec.upto tilesLaterSpec)

/-- 'speculumlaw05.RangesPart', WHERE WHAT IT READS IS OF BULK AT MOST 1048576: true; the input reads as it did. -/
def rangesPartUptoRow : OpenClaim := { program := "ytjkfeonbioccmaadoor", sum := "09b5efba60758b3a3687c47e7a9c605839e3a6b417982c04b166c591e095aa45", func := "speculum/speculumlaw05.RangesPart", spec := "rangesPart", inPlace := ["internal/abi.NoEscape", "internal/bytealg.MakeNoZero"], unfollowed := true, recurses := true, named := ["speculum/sha.first", "speculum/sha.rounds"], plainKeys := false, apart := false, laid := [("speculum/sha.first", laid_speculum_sha_first), ("speculum/sha.rounds", laid_speculum_sha_rounds)], narrowed := true }
def RangesPartUptoSaid : Prop := rangesPartUptoRow.holds Tryd.pinned (OpenSpec.upto rangesPartSpec)

/-- 'speculumlaw05.RangesFull', WHERE WHAT IT READS IS OF BULK AT MOST 1048576: true; the input reads as it did. -/
def rangesFullUptoRow : OpenClaim := { program := "ytjkfeonbioccmaadoor", sum := "09b5efba60758b3a3687c47e7a9c605839e3a6b417982c04b166c591e095aa45", func := "speculum/speculumlaw05.RangesFull", spec := "rangesFull", inPlace := ["internal/abi.NoEscape", "internal/bytealg.MakeNoZero"], unfollowed := true, recurses := true, named := ["speculum/sha.first", "speculum/sha.rounds"], plainKeys := false, apart := false, laid := [("speculum/sha.first", laid_speculum_sha_first), ("speculum/sha.rounds", laid_speculum_sha_rounds)], narrowed := true }
def RangesFullUptoSaid : Prop := rangesFullUptoRow.holds Tryd.pinned (OpenSpec.upto rangesFullSpec)

/-- 'speculumlaw05.RangesTell', WHERE WHAT IT READS IS OF BULK AT MOST 1048576: true; the input reads as it did. -/
def rangesTellUptoRow : OpenClaim := { program := "ytjkfeonbioccmaadoor", sum := "09b5efba60758b3a3687c47e7a9c605839e3a6b417982c04b166c591e095aa45", func := "speculum/speculumlaw05.RangesTell", spec := "rangesTell", inPlace := ["internal/abi.NoEscape", "internal/bytealg.MakeNoZero"], unfollowed := true, recurses := true, named := ["speculum/sha.first", "speculum/sha.rounds"], plainKeys := false, apart := false, laid := [("speculum/sha.first", laid_speculum_sha_first), ("speculum/sha.rounds", laid_speculum_sha_rounds)], narrowed := true }
def RangesTellUptoSaid : Prop := rangesTellUptoRow.holds Tryd.pinned (OpenSpec.upto rangesTellSpec)

/-- 'speculumlaw05.RangesSame', WHERE WHAT IT READS IS OF BULK AT MOST 1048576: true; the input reads as it did. -/
def rangesSameUptoRow : OpenClaim := { program := "ytjkfeonbioccmaadoor", sum := "09b5efba60758b3a3687c47e7a9c605839e3a6b417982c04b166c591e095aa45", func := "speculum/speculumlaw05.RangesSame", spec := "rangesSame", inPlace := ["internal/abi.NoEscape", "internal/bytealg.MakeNoZero"], unfollowed := true, recurses := true, named := ["speculum/sha.first", "speculum/sha.rounds"], plainKeys := false, apart := false, laid := [("speculum/sha.first", laid_speculum_sha_first), ("speculum/sha.rounds", laid_speculum_sha_rounds)], narrowed := true }
def RangesSameUptoSaid : Prop := rangesSameUptoRow.holds Tryd.pinned (OpenSpec.upto rangesSameSpec)

/-- 'speculumlaw14.TilesProve', WHERE WHAT IT READS IS OF BULK AT MOST 1048576: true; the input reads as it did. -/
def tilesProveUptoRow : OpenClaim := { program := "ytjkfeonbioccmaadoor", sum := "09b5efba60758b3a3687c47e7a9c605839e3a6b417982c04b166c591e095aa45", func := "speculum/speculumlaw14.TilesProve", spec := "tilesProve", inPlace := ["internal/abi.NoEscape", "internal/bytealg.MakeNoZero"], unfollowed := true, recurses := true, named := ["speculum/sha.first", "speculum/sha.rounds"], plainKeys := false, apart := false, laid := [("speculum/sha.first", laid_speculum_sha_first), ("speculum/sha.rounds", laid_speculum_sha_rounds)], narrowed := true }
def TilesProveUptoSaid : Prop := tilesProveUptoRow.holds Tryd.pinned (OpenSpec.upto tilesProveSpec)

/-- 'speculumlaw25.StageRaw', WHERE WHAT IT READS IS OF BULK AT MOST 1048576: true; the input reads as it did. -/
def stageRawUptoRow : OpenClaim := { program := "ytjkfeonbioccmaadoor", sum := "09b5efba60758b3a3687c47e7a9c605839e3a6b417982c04b166c591e095aa45", func := "speculum/speculumlaw25.StageRaw", spec := "stageRaw", inPlace := ["internal/abi.NoEscape", "internal/bytealg.MakeNoZero"], unfollowed := true, recurses := true, named := ["speculum/sha.first", "speculum/sha.rounds"], plainKeys := false, apart := false, laid := [("speculum/sha.first", laid_speculum_sha_first), ("speculum/sha.rounds", laid_speculum_sha_rounds)], narrowed := true }
def StageRawUptoSaid : Prop := stageRawUptoRow.holds Tryd.pinned (OpenSpec.upto stageRawSpec)

/-- 'speculumlaw25.StagePlay', WHERE WHAT IT READS IS OF BULK AT MOST 1048576: true; the input reads as it did. -/
def stagePlayUptoRow : OpenClaim := { program := "ytjkfeonbioccmaadoor", sum := "09b5efba60758b3a3687c47e7a9c605839e3a6b417982c04b166c591e095aa45", func := "speculum/speculumlaw25.StagePlay", spec := "stagePlay", inPlace := ["internal/abi.NoEscape", "internal/bytealg.MakeNoZero"], unfollowed := true, recurses := true, named := ["speculum/sha.first", "speculum/sha.rounds"], plainKeys := false, apart := false, laid := [("speculum/sha.first", laid_speculum_sha_first), ("speculum/sha.rounds", laid_speculum_sha_rounds)], narrowed := true }
def StagePlayUptoSaid : Prop := stagePlayUptoRow.holds Tryd.pinned (OpenSpec.upto stagePlaySpec)

/-- 'speculumlaw21.ServeTell', WHERE WHAT IT READS IS OF BULK AT MOST 1048576: true; the input reads as it did. -/
def serveTellUptoRow : OpenClaim := { program := "ytjkfeonbioccmaadoor", sum := "09b5efba60758b3a3687c47e7a9c605839e3a6b417982c04b166c591e095aa45", func := "speculum/speculumlaw21.ServeTell", spec := "serveTell", inPlace := ["internal/abi.NoEscape", "internal/bytealg.MakeNoZero"], unfollowed := true, recurses := true, named := ["speculum/sha.first", "speculum/sha.rounds"], plainKeys := false, apart := false, laid := [("speculum/sha.first", laid_speculum_sha_first), ("speculum/sha.rounds", laid_speculum_sha_rounds)], narrowed := true }
def ServeTellUptoSaid : Prop := serveTellUptoRow.holds Tryd.pinned (OpenSpec.upto serveTellSpec)

/-- 'speculumlaw21.ServeProves', WHERE WHAT IT READS IS OF BULK AT MOST 1048576: true; the input reads as it did. -/
def serveProvesUptoRow : OpenClaim := { program := "ytjkfeonbioccmaadoor", sum := "09b5efba60758b3a3687c47e7a9c605839e3a6b417982c04b166c591e095aa45", func := "speculum/speculumlaw21.ServeProves", spec := "serveProves", inPlace := ["internal/abi.NoEscape", "internal/bytealg.MakeNoZero"], unfollowed := true, recurses := true, named := ["speculum/sha.first", "speculum/sha.rounds"], plainKeys := false, apart := false, laid := [("speculum/sha.first", laid_speculum_sha_first), ("speculum/sha.rounds", laid_speculum_sha_rounds)], narrowed := true }
def ServeProvesUptoSaid : Prop := serveProvesUptoRow.holds Tryd.pinned (OpenSpec.upto serveProvesSpec)

/-- 'speculumlaw22.PublishNone', WHERE WHAT IT READS IS OF BULK AT MOST 1048576: true; the input reads as it did. -/
def publishNoneUptoRow : OpenClaim := { program := "ytjkfeonbioccmaadoor", sum := "09b5efba60758b3a3687c47e7a9c605839e3a6b417982c04b166c591e095aa45", func := "speculum/speculumlaw22.PublishNone", spec := "publishNone", inPlace := ["internal/abi.NoEscape", "internal/bytealg.MakeNoZero"], unfollowed := true, recurses := true, named := ["speculum/sha.first", "speculum/sha.rounds"], plainKeys := false, apart := false, laid := [("speculum/sha.first", laid_speculum_sha_first), ("speculum/sha.rounds", laid_speculum_sha_rounds)], narrowed := true }
def PublishNoneUptoSaid : Prop := publishNoneUptoRow.holds Tryd.pinned (OpenSpec.upto publishNoneSpec)

/-- 'speculumlaw22.PublishHeads', WHERE WHAT IT READS IS OF BULK AT MOST 1048576: true; the input reads as it did. -/
def publishHeadsUptoRow : OpenClaim := { program := "ytjkfeonbioccmaadoor", sum := "09b5efba60758b3a3687c47e7a9c605839e3a6b417982c04b166c591e095aa45", func := "speculum/speculumlaw22.PublishHeads", spec := "publishHeads", inPlace := ["internal/abi.NoEscape", "internal/bytealg.MakeNoZero"], unfollowed := true, recurses := true, named := ["speculum/sha.first", "speculum/sha.rounds"], plainKeys := false, apart := false, laid := [("speculum/sha.first", laid_speculum_sha_first), ("speculum/sha.rounds", laid_speculum_sha_rounds)], narrowed := true }
def PublishHeadsUptoSaid : Prop := publishHeadsUptoRow.holds Tryd.pinned (OpenSpec.upto publishHeadsSpec)

/-- 'speculumlaw27.ExtractTell', WHERE WHAT IT READS IS OF BULK AT MOST 1048576: true; the input reads as it did. -/
def extractTellUptoRow : OpenClaim := { program := "ytjkfeonbioccmaadoor", sum := "09b5efba60758b3a3687c47e7a9c605839e3a6b417982c04b166c591e095aa45", func := "speculum/speculumlaw27.ExtractTell", spec := "extractTell", inPlace := ["internal/abi.NoEscape", "internal/bytealg.MakeNoZero"], unfollowed := true, recurses := true, named := ["speculum/sha.first", "speculum/sha.rounds"], plainKeys := false, apart := false, laid := [("speculum/sha.first", laid_speculum_sha_first), ("speculum/sha.rounds", laid_speculum_sha_rounds)], narrowed := true }
def ExtractTellUptoSaid : Prop := extractTellUptoRow.holds Tryd.pinned (OpenSpec.upto extractTellSpec)

end Rows
end Go.Proofs.YtjkfeonbioccmaaDoor
