/-
  NARROWER THAN 'FOR EVERY INPUT', by the rows' own cells (each row's printed sentence says how): CacheProbes: laid · CacheChains: laid · CacheFinds: laid · CacheRoom: laid · CacheOrder: laid · CacheCounts: laid · CacheTable: laid · CacheDrops: laid · CacheNil: laid · CacheStates: laid · CacheSaved: laid · CachePlays: laid.
  DERIVED. THE GIVEN ROWS OF THIS SEAT. 12 by the template 'for every input the law returns true; each argument reads behind the call as it read before'; 0 by the template 'total and deterministic' (their statements: YtepbaneageipfaaGreatDoorTotals.lean).
  GIVEN WITH THE SEED: the statements are not yours to turn. If you find one false, say at which input.
  Laid BY PROGRAM, IN A SANDBOX (cutbox-rows.mjs): the forced cells as the released guide's own fill.sh prints them over the translation 31925bebda025417… (all of the seat's roots in one cut). By AI agents, Wed Nov 11 2026. No macro, syntax, notation, axiom, sorry.
-/
import Derived.Test.YtepbaneageipfaaGreatDoorChecked
import GoSem.Claim
import GoSem.ClaimJoined
import GoSem.ClaimMapViews
import Derived.JoinedTies
import Derived.KernelRfl
namespace Go.Proofs.YtepbaneageipfaaGreatDoor
/- THE CELL 'sum', in the pinned program and in every row, IS THE sha256 OF THE DUMP (.gsa) THAT YtepbaneageipfaaGreatDoorProg.lean LOADS. Nothing in Lean hashes anything: it is a label: what it is worth is what the hold of that sum in a sandbox is worth. -/
noncomputable def Tryz.pinned : Pinned := { name := "ytepbaneageipfaagreatdoor", sum := "31925bebda0254178cccf9f4773663086c9e0e99d669887b01e9b04cd9dac1c6", checked := Tryz.checked }
namespace Rows
def none {H : Type} : Left H := { results := [], args := [] }

/- WHAT THE LISTED PACKAGE-LEVEL VARIABLES READ AS WHEN THE CALL BEGINS. Each datum BY PROGRAM (the guide's laid-datum.mjs) off the statement by which the dump's own 'gosem.cut.vars' lays the variable. In a bare row this is a premise. The card (YtepbaneageipfaaGreatDoorCards.lean) ties it to the program's text. -/
def laid_math_bits_deBruijn32tab {H : Type} : DataW H := .agg [.lit (.int .u8 0), .lit (.int .u8 1), .lit (.int .u8 28), .lit (.int .u8 2), .lit (.int .u8 29), .lit (.int .u8 14), .lit (.int .u8 24), .lit (.int .u8 3), .lit (.int .u8 30), .lit (.int .u8 22), .lit (.int .u8 20), .lit (.int .u8 15), .lit (.int .u8 25), .lit (.int .u8 17), .lit (.int .u8 4), .lit (.int .u8 8), .lit (.int .u8 31), .lit (.int .u8 27), .lit (.int .u8 13), .lit (.int .u8 23), .lit (.int .u8 21), .lit (.int .u8 19), .lit (.int .u8 16), .lit (.int .u8 7), .lit (.int .u8 26), .lit (.int .u8 12), .lit (.int .u8 18), .lit (.int .u8 6), .lit (.int .u8 11), .lit (.int .u8 5), .lit (.int .u8 10), .lit (.int .u8 9)]
def laid_math_bits_deBruijn64tab {H : Type} : DataW H := .agg [.lit (.int .u8 0), .lit (.int .u8 1), .lit (.int .u8 56), .lit (.int .u8 2), .lit (.int .u8 57), .lit (.int .u8 49), .lit (.int .u8 28), .lit (.int .u8 3), .lit (.int .u8 61), .lit (.int .u8 58), .lit (.int .u8 42), .lit (.int .u8 50), .lit (.int .u8 38), .lit (.int .u8 29), .lit (.int .u8 17), .lit (.int .u8 4), .lit (.int .u8 62), .lit (.int .u8 47), .lit (.int .u8 59), .lit (.int .u8 36), .lit (.int .u8 45), .lit (.int .u8 43), .lit (.int .u8 51), .lit (.int .u8 22), .lit (.int .u8 53), .lit (.int .u8 39), .lit (.int .u8 33), .lit (.int .u8 30), .lit (.int .u8 24), .lit (.int .u8 18), .lit (.int .u8 12), .lit (.int .u8 5), .lit (.int .u8 63), .lit (.int .u8 55), .lit (.int .u8 48), .lit (.int .u8 27), .lit (.int .u8 60), .lit (.int .u8 41), .lit (.int .u8 37), .lit (.int .u8 16), .lit (.int .u8 46), .lit (.int .u8 35), .lit (.int .u8 44), .lit (.int .u8 21), .lit (.int .u8 52), .lit (.int .u8 32), .lit (.int .u8 23), .lit (.int .u8 11), .lit (.int .u8 54), .lit (.int .u8 26), .lit (.int .u8 40), .lit (.int .u8 15), .lit (.int .u8 34), .lit (.int .u8 20), .lit (.int .u8 31), .lit (.int .u8 10), .lit (.int .u8 25), .lit (.int .u8 14), .lit (.int .u8 19), .lit (.int .u8 9), .lit (.int .u8 13), .lit (.int .u8 8), .lit (.int .u8 7), .lit (.int .u8 6)]
def laid_candling_host_forms {H : Type} : DataW H := .agg [.agg [.lit (.string []), .lit (.int .i64 0), .lit (.int .i64 0)], .agg [.lit (.string [115, 101, 116]), .lit (.int .i64 264), .lit (.int .i64 0)], .agg [.lit (.string [109, 111, 118]), .lit (.int .i64 24), .lit (.int .i64 0)], .agg [.lit (.string [98, 105, 110]), .lit (.int .i64 57), .lit (.int .i64 1)], .agg [.lit (.string [98, 105, 110, 105]), .lit (.int .i64 281), .lit (.int .i64 1)], .agg [.lit (.string [117, 110]), .lit (.int .i64 31), .lit (.int .i64 2)], .agg [.lit (.string [109, 117, 120]), .lit (.int .i64 120), .lit (.int .i64 0)], .agg [.lit (.string [118, 115, 101, 116]), .lit (.int .i64 3080), .lit (.int .i64 0)], .agg [.lit (.string [118, 109, 111, 118]), .lit (.int .i64 6168), .lit (.int .i64 0)], .agg [.lit (.string [118, 98, 105, 110]), .lit (.int .i64 14393), .lit (.int .i64 3)], .agg [.lit (.string [118, 117, 110]), .lit (.int .i64 6169), .lit (.int .i64 4)], .agg [.lit (.string [118, 99, 109, 112]), .lit (.int .i64 12345), .lit (.int .i64 5)], .agg [.lit (.string [118, 110, 122]), .lit (.int .i64 4120), .lit (.int .i64 0)], .agg [.lit (.string [118, 102, 105, 108, 108]), .lit (.int .i64 2072), .lit (.int .i64 0)], .agg [.lit (.string [118, 115, 112, 108, 97, 116]), .lit (.int .i64 2072), .lit (.int .i64 0)], .agg [.lit (.string [118, 119, 111, 114, 100]), .lit (.int .i64 4248), .lit (.int .i64 6)], .agg [.lit (.string [118, 112, 117, 116]), .lit (.int .i64 6328), .lit (.int .i64 6)], .agg [.lit (.string [118, 109, 97, 115, 107]), .lit (.int .i64 4120), .lit (.int .i64 0)], .agg [.lit (.string [118, 109, 117, 120]), .lit (.int .i64 26744), .lit (.int .i64 0)], .agg [.lit (.string [103, 101, 116]), .lit (.int .i64 140), .lit (.int .i64 7)], .agg [.lit (.string [112, 117, 116]), .lit (.int .i64 148), .lit (.int .i64 7)], .agg [.lit (.string [112, 117, 116, 105]), .lit (.int .i64 388), .lit (.int .i64 7)], .agg [.lit (.string [118, 103, 101, 116]), .lit (.int .i64 2184), .lit (.int .i64 8)], .agg [.lit (.string [118, 112, 117, 116, 115]), .lit (.int .i64 4240), .lit (.int .i64 8)], .agg [.lit (.string [108, 111, 97, 100]), .lit (.int .i64 284), .lit (.int .i64 9)], .agg [.lit (.string [115, 116, 111, 114, 101]), .lit (.int .i64 308), .lit (.int .i64 9)], .agg [.lit (.string [118, 108, 111, 97, 100]), .lit (.int .i64 2328), .lit (.int .i64 0)], .agg [.lit (.string [118, 115, 116, 111, 114, 101]), .lit (.int .i64 8496), .lit (.int .i64 0)], .agg [.lit (.string [115, 104, 108, 111, 97, 100]), .lit (.int .i64 284), .lit (.int .i64 9)], .agg [.lit (.string [115, 104, 115, 116, 111, 114, 101]), .lit (.int .i64 308), .lit (.int .i64 9)], .agg [.lit (.string [118, 115, 104, 108, 111, 97, 100]), .lit (.int .i64 2328), .lit (.int .i64 0)], .agg [.lit (.string [118, 115, 104, 115, 116, 111, 114, 101]), .lit (.int .i64 8496), .lit (.int .i64 0)], .agg [.lit (.string [111, 114, 105, 103, 105, 110]), .lit (.int .i64 284), .lit (.int .i64 10)], .agg [.lit (.string [115, 101, 116, 111, 114, 105, 103, 105, 110]), .lit (.int .i64 432), .lit (.int .i64 11)], .agg [.lit (.string [99, 97, 115]), .lit (.int .i64 377), .lit (.int .i64 12)], .agg [.lit (.string [97, 114, 103]), .lit (.int .i64 144), .lit (.int .i64 13)], .agg [.lit (.string [99, 97, 108, 108]), .lit (.int .i64 9), .lit (.int .i64 14)], .agg [.lit (.string [110, 111, 116, 101]), .lit (.int .i64 400), .lit (.int .i64 15)], .agg [.lit (.string [109, 97, 114, 107]), .lit (.int .i64 384), .lit (.int .i64 16)], .agg [.lit (.string [101, 120, 105, 116]), .lit (.int .i64 912), .lit (.int .i64 17)], .agg [.lit (.string [101, 110, 100]), .lit (.int .i64 896), .lit (.int .i64 17)], .agg [.lit (.string [101, 110, 100, 114]), .lit (.int .i64 144), .lit (.int .i64 17)], .agg [.lit (.string [115, 112, 105, 108, 108]), .lit (.int .i64 144), .lit (.int .i64 18)], .agg [.lit (.string [102, 105, 108, 108]), .lit (.int .i64 136), .lit (.int .i64 18)], .agg [.lit (.string [118, 115, 112, 105, 108, 108]), .lit (.int .i64 4240), .lit (.int .i64 19)], .agg [.lit (.string [118, 117, 110, 115, 112, 105, 108, 108]), .lit (.int .i64 2184), .lit (.int .i64 19)]]

/-- 'candlinglaw21.CacheProbes': WHATEVER THE INPUT: true; the input reads as it did. -/
def cacheProbesSpec : ChangeSpec := { name := "cacheProbes", fn := fun _ => fun
  | [d1, d2, d3, d4, d5] => { results := [.lit (.bool true)], args := [d1, d2, d3, d4, d5] }
  | _ => none }
def cacheProbesRow : OpenClaim := { program := "ytepbaneageipfaagreatdoor", sum := "31925bebda0254178cccf9f4773663086c9e0e99d669887b01e9b04cd9dac1c6", func := "candling/candlinglaw21.CacheProbes", spec := "cacheProbes", inPlace := ["maps.clone"], unfollowed := true, recurses := true, named := ["candling/host.forms", "math/bits.deBruijn32tab", "math/bits.deBruijn64tab"], plainKeys := false, apart := false, laid := [("math/bits.deBruijn32tab", laid_math_bits_deBruijn32tab), ("math/bits.deBruijn64tab", laid_math_bits_deBruijn64tab), ("candling/host.forms", laid_candling_host_forms)] }
def CacheProbesSaid : Prop := cacheProbesRow.holds Tryz.pinned (OpenSpec.ofChange cacheProbesSpec)

/-- ITS FALSE NEIGHBOUR: 'it returns false'. Refute it at one input. -/
def cacheProbesWrong : ChangeSpec := { name := "cacheProbes", fn := fun _ => fun
  | [d1, d2, d3, d4, d5] => { results := [.lit (.bool false)], args := [d1, d2, d3, d4, d5] }
  | _ => none }
def CacheProbesWrongFalsely : Prop := cacheProbesRow.holds Tryz.pinned (OpenSpec.ofChange cacheProbesWrong)

/-- 'candlinglaw21.CacheChains': WHATEVER THE INPUT: true; the input reads as it did. -/
def cacheChainsSpec : ChangeSpec := { name := "cacheChains", fn := fun _ => fun
  | [d1, d2] => { results := [.lit (.bool true)], args := [d1, d2] }
  | _ => none }
def cacheChainsRow : OpenClaim := { program := "ytepbaneageipfaagreatdoor", sum := "31925bebda0254178cccf9f4773663086c9e0e99d669887b01e9b04cd9dac1c6", func := "candling/candlinglaw21.CacheChains", spec := "cacheChains", inPlace := ["maps.clone"], unfollowed := true, recurses := true, named := ["candling/host.forms", "math/bits.deBruijn32tab", "math/bits.deBruijn64tab"], plainKeys := false, apart := false, laid := [("math/bits.deBruijn32tab", laid_math_bits_deBruijn32tab), ("math/bits.deBruijn64tab", laid_math_bits_deBruijn64tab), ("candling/host.forms", laid_candling_host_forms)] }
def CacheChainsSaid : Prop := cacheChainsRow.holds Tryz.pinned (OpenSpec.ofChange cacheChainsSpec)

/-- ITS FALSE NEIGHBOUR: 'it returns false'. Refute it at one input. -/
def cacheChainsWrong : ChangeSpec := { name := "cacheChains", fn := fun _ => fun
  | [d1, d2] => { results := [.lit (.bool false)], args := [d1, d2] }
  | _ => none }
def CacheChainsWrongFalsely : Prop := cacheChainsRow.holds Tryz.pinned (OpenSpec.ofChange cacheChainsWrong)

/-- 'candlinglaw21.CacheFinds': WHATEVER THE INPUT: true; the input reads as it did. -/
def cacheFindsSpec : ChangeSpec := { name := "cacheFinds", fn := fun _ => fun
  | [d1, d2] => { results := [.lit (.bool true)], args := [d1, d2] }
  | _ => none }
def cacheFindsRow : OpenClaim := { program := "ytepbaneageipfaagreatdoor", sum := "31925bebda0254178cccf9f4773663086c9e0e99d669887b01e9b04cd9dac1c6", func := "candling/candlinglaw21.CacheFinds", spec := "cacheFinds", inPlace := ["maps.clone"], unfollowed := true, recurses := true, named := ["candling/host.forms", "math/bits.deBruijn32tab", "math/bits.deBruijn64tab"], plainKeys := false, apart := false, laid := [("math/bits.deBruijn32tab", laid_math_bits_deBruijn32tab), ("math/bits.deBruijn64tab", laid_math_bits_deBruijn64tab), ("candling/host.forms", laid_candling_host_forms)] }
def CacheFindsSaid : Prop := cacheFindsRow.holds Tryz.pinned (OpenSpec.ofChange cacheFindsSpec)

/-- ITS FALSE NEIGHBOUR: 'it returns false'. Refute it at one input. -/
def cacheFindsWrong : ChangeSpec := { name := "cacheFinds", fn := fun _ => fun
  | [d1, d2] => { results := [.lit (.bool false)], args := [d1, d2] }
  | _ => none }
def CacheFindsWrongFalsely : Prop := cacheFindsRow.holds Tryz.pinned (OpenSpec.ofChange cacheFindsWrong)

/-- 'candlinglaw21.CacheRoom': WHATEVER THE INPUT: true; the input reads as it did. -/
def cacheRoomSpec : ChangeSpec := { name := "cacheRoom", fn := fun _ => fun
  | [d1, d2] => { results := [.lit (.bool true)], args := [d1, d2] }
  | _ => none }
def cacheRoomRow : OpenClaim := { program := "ytepbaneageipfaagreatdoor", sum := "31925bebda0254178cccf9f4773663086c9e0e99d669887b01e9b04cd9dac1c6", func := "candling/candlinglaw21.CacheRoom", spec := "cacheRoom", inPlace := ["maps.clone"], unfollowed := true, recurses := true, named := ["candling/host.forms", "math/bits.deBruijn32tab", "math/bits.deBruijn64tab"], plainKeys := false, apart := false, laid := [("math/bits.deBruijn32tab", laid_math_bits_deBruijn32tab), ("math/bits.deBruijn64tab", laid_math_bits_deBruijn64tab), ("candling/host.forms", laid_candling_host_forms)] }
def CacheRoomSaid : Prop := cacheRoomRow.holds Tryz.pinned (OpenSpec.ofChange cacheRoomSpec)

/-- ITS FALSE NEIGHBOUR: 'it returns false'. Refute it at one input. -/
def cacheRoomWrong : ChangeSpec := { name := "cacheRoom", fn := fun _ => fun
  | [d1, d2] => { results := [.lit (.bool false)], args := [d1, d2] }
  | _ => none }
def CacheRoomWrongFalsely : Prop := cacheRoomRow.holds Tryz.pinned (OpenSpec.ofChange cacheRoomWrong)

/-- 'candlinglaw21.CacheOrder': WHATEVER THE INPUT: true; the input reads as it did. -/
def cacheOrderSpec : ChangeSpec := { name := "cacheOrder", fn := fun _ => fun
  | [d1, d2, d3] => { results := [.lit (.bool true)], args := [d1, d2, d3] }
  | _ => none }
def cacheOrderRow : OpenClaim := { program := "ytepbaneageipfaagreatdoor", sum := "31925bebda0254178cccf9f4773663086c9e0e99d669887b01e9b04cd9dac1c6", func := "candling/candlinglaw21.CacheOrder", spec := "cacheOrder", inPlace := ["maps.clone"], unfollowed := true, recurses := true, named := ["candling/host.forms", "math/bits.deBruijn32tab", "math/bits.deBruijn64tab"], plainKeys := false, apart := false, laid := [("math/bits.deBruijn32tab", laid_math_bits_deBruijn32tab), ("math/bits.deBruijn64tab", laid_math_bits_deBruijn64tab), ("candling/host.forms", laid_candling_host_forms)] }
def CacheOrderSaid : Prop := cacheOrderRow.holds Tryz.pinned (OpenSpec.ofChange cacheOrderSpec)

/-- ITS FALSE NEIGHBOUR: 'it returns false'. Refute it at one input. -/
def cacheOrderWrong : ChangeSpec := { name := "cacheOrder", fn := fun _ => fun
  | [d1, d2, d3] => { results := [.lit (.bool false)], args := [d1, d2, d3] }
  | _ => none }
def CacheOrderWrongFalsely : Prop := cacheOrderRow.holds Tryz.pinned (OpenSpec.ofChange cacheOrderWrong)

/-- 'candlinglaw21.CacheCounts': WHATEVER THE INPUT: true; the input reads as it did. -/
def cacheCountsSpec : ChangeSpec := { name := "cacheCounts", fn := fun _ => fun
  | [d1, d2] => { results := [.lit (.bool true)], args := [d1, d2] }
  | _ => none }
def cacheCountsRow : OpenClaim := { program := "ytepbaneageipfaagreatdoor", sum := "31925bebda0254178cccf9f4773663086c9e0e99d669887b01e9b04cd9dac1c6", func := "candling/candlinglaw21.CacheCounts", spec := "cacheCounts", inPlace := ["maps.clone"], unfollowed := true, recurses := true, named := ["candling/host.forms", "math/bits.deBruijn32tab", "math/bits.deBruijn64tab"], plainKeys := false, apart := false, laid := [("math/bits.deBruijn32tab", laid_math_bits_deBruijn32tab), ("math/bits.deBruijn64tab", laid_math_bits_deBruijn64tab), ("candling/host.forms", laid_candling_host_forms)] }
def CacheCountsSaid : Prop := cacheCountsRow.holds Tryz.pinned (OpenSpec.ofChange cacheCountsSpec)

/-- ITS FALSE NEIGHBOUR: 'it returns false'. Refute it at one input. -/
def cacheCountsWrong : ChangeSpec := { name := "cacheCounts", fn := fun _ => fun
  | [d1, d2] => { results := [.lit (.bool false)], args := [d1, d2] }
  | _ => none }
def CacheCountsWrongFalsely : Prop := cacheCountsRow.holds Tryz.pinned (OpenSpec.ofChange cacheCountsWrong)

/-- 'candlinglaw21.CacheTable': WHATEVER THE INPUT: true; the input reads as it did. -/
def cacheTableSpec : ChangeSpec := { name := "cacheTable", fn := fun _ => fun
  | [d1, d2, d3] => { results := [.lit (.bool true)], args := [d1, d2, d3] }
  | _ => none }
def cacheTableRow : OpenClaim := { program := "ytepbaneageipfaagreatdoor", sum := "31925bebda0254178cccf9f4773663086c9e0e99d669887b01e9b04cd9dac1c6", func := "candling/candlinglaw21.CacheTable", spec := "cacheTable", inPlace := ["maps.clone"], unfollowed := true, recurses := true, named := ["candling/host.forms", "math/bits.deBruijn32tab", "math/bits.deBruijn64tab"], plainKeys := false, apart := false, laid := [("math/bits.deBruijn32tab", laid_math_bits_deBruijn32tab), ("math/bits.deBruijn64tab", laid_math_bits_deBruijn64tab), ("candling/host.forms", laid_candling_host_forms)] }
def CacheTableSaid : Prop := cacheTableRow.holds Tryz.pinned (OpenSpec.ofChange cacheTableSpec)

/-- ITS FALSE NEIGHBOUR: 'it returns false'. Refute it at one input. -/
def cacheTableWrong : ChangeSpec := { name := "cacheTable", fn := fun _ => fun
  | [d1, d2, d3] => { results := [.lit (.bool false)], args := [d1, d2, d3] }
  | _ => none }
def CacheTableWrongFalsely : Prop := cacheTableRow.holds Tryz.pinned (OpenSpec.ofChange cacheTableWrong)

/-- 'candlinglaw21.CacheDrops': WHATEVER THE INPUT: true; the input reads as it did. -/
def cacheDropsSpec : ChangeSpec := { name := "cacheDrops", fn := fun _ => fun
  | [d1, d2, d3] => { results := [.lit (.bool true)], args := [d1, d2, d3] }
  | _ => none }
def cacheDropsRow : OpenClaim := { program := "ytepbaneageipfaagreatdoor", sum := "31925bebda0254178cccf9f4773663086c9e0e99d669887b01e9b04cd9dac1c6", func := "candling/candlinglaw21.CacheDrops", spec := "cacheDrops", inPlace := ["maps.clone"], unfollowed := true, recurses := true, named := ["candling/host.forms", "math/bits.deBruijn32tab", "math/bits.deBruijn64tab"], plainKeys := false, apart := false, laid := [("math/bits.deBruijn32tab", laid_math_bits_deBruijn32tab), ("math/bits.deBruijn64tab", laid_math_bits_deBruijn64tab), ("candling/host.forms", laid_candling_host_forms)] }
def CacheDropsSaid : Prop := cacheDropsRow.holds Tryz.pinned (OpenSpec.ofChange cacheDropsSpec)

/-- ITS FALSE NEIGHBOUR: 'it returns false'. Refute it at one input. -/
def cacheDropsWrong : ChangeSpec := { name := "cacheDrops", fn := fun _ => fun
  | [d1, d2, d3] => { results := [.lit (.bool false)], args := [d1, d2, d3] }
  | _ => none }
def CacheDropsWrongFalsely : Prop := cacheDropsRow.holds Tryz.pinned (OpenSpec.ofChange cacheDropsWrong)

/-- 'candlinglaw21.CacheNil': WHATEVER THE INPUT: true; the input reads as it did. -/
def cacheNilSpec : ChangeSpec := { name := "cacheNil", fn := fun _ => fun
  | [d] => { results := [.lit (.bool true)], args := [d] }
  | _ => none }
def cacheNilRow : OpenClaim := { program := "ytepbaneageipfaagreatdoor", sum := "31925bebda0254178cccf9f4773663086c9e0e99d669887b01e9b04cd9dac1c6", func := "candling/candlinglaw21.CacheNil", spec := "cacheNil", inPlace := ["maps.clone"], unfollowed := true, recurses := true, named := ["candling/host.forms", "math/bits.deBruijn32tab", "math/bits.deBruijn64tab"], plainKeys := false, apart := false, laid := [("math/bits.deBruijn32tab", laid_math_bits_deBruijn32tab), ("math/bits.deBruijn64tab", laid_math_bits_deBruijn64tab), ("candling/host.forms", laid_candling_host_forms)] }
def CacheNilSaid : Prop := cacheNilRow.holds Tryz.pinned (OpenSpec.ofChange cacheNilSpec)

/-- ITS FALSE NEIGHBOUR: 'it returns false'. Refute it at one input. -/
def cacheNilWrong : ChangeSpec := { name := "cacheNil", fn := fun _ => fun
  | [d] => { results := [.lit (.bool false)], args := [d] }
  | _ => none }
def CacheNilWrongFalsely : Prop := cacheNilRow.holds Tryz.pinned (OpenSpec.ofChange cacheNilWrong)

/-- 'candlinglaw21.CacheStates': WHATEVER THE INPUT: true; the input reads as it did. -/
def cacheStatesSpec : ChangeSpec := { name := "cacheStates", fn := fun _ => fun
  | [d1, d2] => { results := [.lit (.bool true)], args := [d1, d2] }
  | _ => none }
def cacheStatesRow : OpenClaim := { program := "ytepbaneageipfaagreatdoor", sum := "31925bebda0254178cccf9f4773663086c9e0e99d669887b01e9b04cd9dac1c6", func := "candling/candlinglaw21.CacheStates", spec := "cacheStates", inPlace := ["maps.clone"], unfollowed := true, recurses := true, named := ["candling/host.forms", "math/bits.deBruijn32tab", "math/bits.deBruijn64tab"], plainKeys := false, apart := false, laid := [("math/bits.deBruijn32tab", laid_math_bits_deBruijn32tab), ("math/bits.deBruijn64tab", laid_math_bits_deBruijn64tab), ("candling/host.forms", laid_candling_host_forms)] }
def CacheStatesSaid : Prop := cacheStatesRow.holds Tryz.pinned (OpenSpec.ofChange cacheStatesSpec)

/-- ITS FALSE NEIGHBOUR: 'it returns false'. Refute it at one input. -/
def cacheStatesWrong : ChangeSpec := { name := "cacheStates", fn := fun _ => fun
  | [d1, d2] => { results := [.lit (.bool false)], args := [d1, d2] }
  | _ => none }
def CacheStatesWrongFalsely : Prop := cacheStatesRow.holds Tryz.pinned (OpenSpec.ofChange cacheStatesWrong)

/-- 'candlinglaw21.CacheSaved': WHATEVER THE INPUT: true; the input reads as it did. -/
def cacheSavedSpec : ChangeSpec := { name := "cacheSaved", fn := fun _ => fun
  | [d1, d2, d3] => { results := [.lit (.bool true)], args := [d1, d2, d3] }
  | _ => none }
def cacheSavedRow : OpenClaim := { program := "ytepbaneageipfaagreatdoor", sum := "31925bebda0254178cccf9f4773663086c9e0e99d669887b01e9b04cd9dac1c6", func := "candling/candlinglaw21.CacheSaved", spec := "cacheSaved", inPlace := ["maps.clone"], unfollowed := true, recurses := true, named := ["candling/host.forms", "math/bits.deBruijn32tab", "math/bits.deBruijn64tab"], plainKeys := false, apart := false, laid := [("math/bits.deBruijn32tab", laid_math_bits_deBruijn32tab), ("math/bits.deBruijn64tab", laid_math_bits_deBruijn64tab), ("candling/host.forms", laid_candling_host_forms)] }
def CacheSavedSaid : Prop := cacheSavedRow.holds Tryz.pinned (OpenSpec.ofChange cacheSavedSpec)

/-- ITS FALSE NEIGHBOUR: 'it returns false'. Refute it at one input. -/
def cacheSavedWrong : ChangeSpec := { name := "cacheSaved", fn := fun _ => fun
  | [d1, d2, d3] => { results := [.lit (.bool false)], args := [d1, d2, d3] }
  | _ => none }
def CacheSavedWrongFalsely : Prop := cacheSavedRow.holds Tryz.pinned (OpenSpec.ofChange cacheSavedWrong)

/-- 'candlinglaw21.CachePlays': WHATEVER THE INPUT: true; the input reads as it did. -/
def cachePlaysSpec : ChangeSpec := { name := "cachePlays", fn := fun _ => fun
  | [d1, d2, d3, d4] => { results := [.lit (.bool true)], args := [d1, d2, d3, d4] }
  | _ => none }
def cachePlaysRow : OpenClaim := { program := "ytepbaneageipfaagreatdoor", sum := "31925bebda0254178cccf9f4773663086c9e0e99d669887b01e9b04cd9dac1c6", func := "candling/candlinglaw21.CachePlays", spec := "cachePlays", inPlace := ["maps.clone"], unfollowed := true, recurses := true, named := ["candling/host.forms", "math/bits.deBruijn32tab", "math/bits.deBruijn64tab"], plainKeys := false, apart := false, laid := [("math/bits.deBruijn32tab", laid_math_bits_deBruijn32tab), ("math/bits.deBruijn64tab", laid_math_bits_deBruijn64tab), ("candling/host.forms", laid_candling_host_forms)] }
def CachePlaysSaid : Prop := cachePlaysRow.holds Tryz.pinned (OpenSpec.ofChange cachePlaysSpec)

/-- ITS FALSE NEIGHBOUR: 'it returns false'. Refute it at one input. -/
def cachePlaysWrong : ChangeSpec := { name := "cachePlays", fn := fun _ => fun
  | [d1, d2, d3, d4] => { results := [.lit (.bool false)], args := [d1, d2, d3, d4] }
  | _ => none }
def CachePlaysWrongFalsely : Prop := cachePlaysRow.holds Tryz.pinned (OpenSpec.ofChange cachePlaysWrong)

/- THE SECOND FORM. 'bulk': how many values and letters a reading holds, each counted each time it is reached (what is shared counts as often as it is met; a slice's spare places count too). A statement '..UptoSaid' is the law's where the arguments, and the package variables that the reading takes, are together of bulk at most 1048576: NARROWER than '..Said'. Prove '..Said' where nothing that the law and all that it calls make is longer than what came in: it says more and counts as full. Else prove '..UptoSaid'. A law counts once. -/
mutual
def uptoBulk {H : Type} : DataW H → Nat
  | .lit (.string bytes) => bytes.length + 1
  | .lit _ => 1
  | .nil => 1
  | .ptr d => uptoBulk d + 1
  | .slice elems spare => uptoBulkAll elems + uptoBulkAll spare + 1
  | .agg parts => uptoBulkAll parts + 1
  | .iface _ d => uptoBulk d + 1
  | .map entries => uptoBulkEntries entries + 1
  | .held _ => 1
def uptoBulkAll {H : Type} : List (DataW H) → Nat
  | [] => 0
  | d :: r => uptoBulk d + uptoBulkAll r
def uptoBulkEntries {H : Type} : List (Lit × DataW H) → Nat
  | [] => 0
  | x :: r => uptoBulkEntry x + uptoBulkEntries r
def uptoBulkEntry {H : Type} : Lit × DataW H → Nat
  | (.string bytes, d) => bytes.length + uptoBulk d + 1
  | (_, d) => uptoBulk d + 1
 end
def uptoSmall : (H : Type) → List (DataW H) → Bool := fun _ ds => decide (uptoBulkAll ds ≤ 1048576)
def OpenSpec.upto (s : _root_.Go.ChangeSpec) : _root_.Go.OpenSpec := { _root_.Go.OpenSpec.ofChange s with cond := some uptoSmall }

/-- 'candlinglaw21.CacheProbes', WHERE WHAT IT READS IS OF BULK AT MOST 1048576: true; the input reads as it did. -/
def cacheProbesUptoRow : OpenClaim := { program := "ytepbaneageipfaagreatdoor", sum := "31925bebda0254178cccf9f4773663086c9e0e99d669887b01e9b04cd9dac1c6", func := "candling/candlinglaw21.CacheProbes", spec := "cacheProbes", inPlace := ["maps.clone"], unfollowed := true, recurses := true, named := ["candling/host.forms", "math/bits.deBruijn32tab", "math/bits.deBruijn64tab"], plainKeys := false, apart := false, laid := [("math/bits.deBruijn32tab", laid_math_bits_deBruijn32tab), ("math/bits.deBruijn64tab", laid_math_bits_deBruijn64tab), ("candling/host.forms", laid_candling_host_forms)], narrowed := true }
def CacheProbesUptoSaid : Prop := cacheProbesUptoRow.holds Tryz.pinned (OpenSpec.upto cacheProbesSpec)

/-- 'candlinglaw21.CacheChains', WHERE WHAT IT READS IS OF BULK AT MOST 1048576: true; the input reads as it did. -/
def cacheChainsUptoRow : OpenClaim := { program := "ytepbaneageipfaagreatdoor", sum := "31925bebda0254178cccf9f4773663086c9e0e99d669887b01e9b04cd9dac1c6", func := "candling/candlinglaw21.CacheChains", spec := "cacheChains", inPlace := ["maps.clone"], unfollowed := true, recurses := true, named := ["candling/host.forms", "math/bits.deBruijn32tab", "math/bits.deBruijn64tab"], plainKeys := false, apart := false, laid := [("math/bits.deBruijn32tab", laid_math_bits_deBruijn32tab), ("math/bits.deBruijn64tab", laid_math_bits_deBruijn64tab), ("candling/host.forms", laid_candling_host_forms)], narrowed := true }
def CacheChainsUptoSaid : Prop := cacheChainsUptoRow.holds Tryz.pinned (OpenSpec.upto cacheChainsSpec)

/-- 'candlinglaw21.CacheFinds', WHERE WHAT IT READS IS OF BULK AT MOST 1048576: true; the input reads as it did. -/
def cacheFindsUptoRow : OpenClaim := { program := "ytepbaneageipfaagreatdoor", sum := "31925bebda0254178cccf9f4773663086c9e0e99d669887b01e9b04cd9dac1c6", func := "candling/candlinglaw21.CacheFinds", spec := "cacheFinds", inPlace := ["maps.clone"], unfollowed := true, recurses := true, named := ["candling/host.forms", "math/bits.deBruijn32tab", "math/bits.deBruijn64tab"], plainKeys := false, apart := false, laid := [("math/bits.deBruijn32tab", laid_math_bits_deBruijn32tab), ("math/bits.deBruijn64tab", laid_math_bits_deBruijn64tab), ("candling/host.forms", laid_candling_host_forms)], narrowed := true }
def CacheFindsUptoSaid : Prop := cacheFindsUptoRow.holds Tryz.pinned (OpenSpec.upto cacheFindsSpec)

/-- 'candlinglaw21.CacheRoom', WHERE WHAT IT READS IS OF BULK AT MOST 1048576: true; the input reads as it did. -/
def cacheRoomUptoRow : OpenClaim := { program := "ytepbaneageipfaagreatdoor", sum := "31925bebda0254178cccf9f4773663086c9e0e99d669887b01e9b04cd9dac1c6", func := "candling/candlinglaw21.CacheRoom", spec := "cacheRoom", inPlace := ["maps.clone"], unfollowed := true, recurses := true, named := ["candling/host.forms", "math/bits.deBruijn32tab", "math/bits.deBruijn64tab"], plainKeys := false, apart := false, laid := [("math/bits.deBruijn32tab", laid_math_bits_deBruijn32tab), ("math/bits.deBruijn64tab", laid_math_bits_deBruijn64tab), ("candling/host.forms", laid_candling_host_forms)], narrowed := true }
def CacheRoomUptoSaid : Prop := cacheRoomUptoRow.holds Tryz.pinned (OpenSpec.upto cacheRoomSpec)

/-- 'candlinglaw21.CacheOrder', WHERE WHAT IT READS IS OF BULK AT MOST 1048576: true; the input reads as it did. -/
def cacheOrderUptoRow : OpenClaim := { program := "ytepbaneageipfaagreatdoor", sum := "31925bebda0254178cccf9f4773663086c9e0e99d669887b01e9b04cd9dac1c6", func := "candling/candlinglaw21.CacheOrder", spec := "cacheOrder", inPlace := ["maps.clone"], unfollowed := true, recurses := true, named := ["candling/host.forms", "math/bits.deBruijn32tab", "math/bits.deBruijn64tab"], plainKeys := false, apart := false, laid := [("math/bits.deBruijn32tab", laid_math_bits_deBruijn32tab), ("math/bits.deBruijn64tab", laid_math_bits_deBruijn64tab), ("candling/host.forms", laid_candling_host_forms)], narrowed := true }
def CacheOrderUptoSaid : Prop := cacheOrderUptoRow.holds Tryz.pinned (OpenSpec.upto cacheOrderSpec)

/-- 'candlinglaw21.CacheCounts', WHERE WHAT IT READS IS OF BULK AT MOST 1048576: true; the input reads as it did. -/
def cacheCountsUptoRow : OpenClaim := { program := "ytepbaneageipfaagreatdoor", sum := "31925bebda0254178cccf9f4773663086c9e0e99d669887b01e9b04cd9dac1c6", func := "candling/candlinglaw21.CacheCounts", spec := "cacheCounts", inPlace := ["maps.clone"], unfollowed := true, recurses := true, named := ["candling/host.forms", "math/bits.deBruijn32tab", "math/bits.deBruijn64tab"], plainKeys := false, apart := false, laid := [("math/bits.deBruijn32tab", laid_math_bits_deBruijn32tab), ("math/bits.deBruijn64tab", laid_math_bits_deBruijn64tab), ("candling/host.forms", laid_candling_host_forms)], narrowed := true }
def CacheCountsUptoSaid : Prop := cacheCountsUptoRow.holds Tryz.pinned (OpenSpec.upto cacheCountsSpec)

/-- 'candlinglaw21.CacheTable', WHERE WHAT IT READS IS OF BULK AT MOST 1048576: true; the input reads as it did. -/
def cacheTableUptoRow : OpenClaim := { program := "ytepbaneageipfaagreatdoor", sum := "31925bebda0254178cccf9f4773663086c9e0e99d669887b01e9b04cd9dac1c6", func := "candling/candlinglaw21.CacheTable", spec := "cacheTable", inPlace := ["maps.clone"], unfollowed := true, recurses := true, named := ["candling/host.forms", "math/bits.deBruijn32tab", "math/bits.deBruijn64tab"], plainKeys := false, apart := false, laid := [("math/bits.deBruijn32tab", laid_math_bits_deBruijn32tab), ("math/bits.deBruijn64tab", laid_math_bits_deBruijn64tab), ("candling/host.forms", laid_candling_host_forms)], narrowed := true }
def CacheTableUptoSaid : Prop := cacheTableUptoRow.holds Tryz.pinned (OpenSpec.upto cacheTableSpec)

/-- 'candlinglaw21.CacheDrops', WHERE WHAT IT READS IS OF BULK AT MOST 1048576: true; the input reads as it did. -/
def cacheDropsUptoRow : OpenClaim := { program := "ytepbaneageipfaagreatdoor", sum := "31925bebda0254178cccf9f4773663086c9e0e99d669887b01e9b04cd9dac1c6", func := "candling/candlinglaw21.CacheDrops", spec := "cacheDrops", inPlace := ["maps.clone"], unfollowed := true, recurses := true, named := ["candling/host.forms", "math/bits.deBruijn32tab", "math/bits.deBruijn64tab"], plainKeys := false, apart := false, laid := [("math/bits.deBruijn32tab", laid_math_bits_deBruijn32tab), ("math/bits.deBruijn64tab", laid_math_bits_deBruijn64tab), ("candling/host.forms", laid_candling_host_forms)], narrowed := true }
def CacheDropsUptoSaid : Prop := cacheDropsUptoRow.holds Tryz.pinned (OpenSpec.upto cacheDropsSpec)

/-- 'candlinglaw21.CacheNil', WHERE WHAT IT READS IS OF BULK AT MOST 1048576: true; the input reads as it did. -/
def cacheNilUptoRow : OpenClaim := { program := "ytepbaneageipfaagreatdoor", sum := "31925bebda0254178cccf9f4773663086c9e0e99d669887b01e9b04cd9dac1c6", func := "candling/candlinglaw21.CacheNil", spec := "cacheNil", inPlace := ["maps.clone"], unfollowed := true, recurses := true, named := ["candling/host.forms", "math/bits.deBruijn32tab", "math/bits.deBruijn64tab"], plainKeys := false, apart := false, laid := [("math/bits.deBruijn32tab", laid_math_bits_deBruijn32tab), ("math/bits.deBruijn64tab", laid_math_bits_deBruijn64tab), ("candling/host.forms", laid_candling_host_forms)], narrowed := true }
def CacheNilUptoSaid : Prop := cacheNilUptoRow.holds Tryz.pinned (OpenSpec.upto cacheNilSpec)

/-- 'candlinglaw21.CacheStates', WHERE WHAT IT READS IS OF BULK AT MOST 1048576: true; the input reads as it did. -/
def cacheStatesUptoRow : OpenClaim := { program := "ytepbaneageipfaagreatdoor", sum := "31925bebda0254178cccf9f4773663086c9e0e99d669887b01e9b04cd9dac1c6", func := "candling/candlinglaw21.CacheStates", spec := "cacheStates", inPlace := ["maps.clone"], unfollowed := true, recurses := true, named := ["candling/host.forms", "math/bits.deBruijn32tab", "math/bits.deBruijn64tab"], plainKeys := false, apart := false, laid := [("math/bits.deBruijn32tab", laid_math_bits_deBruijn32tab), ("math/bits.deBruijn64tab", laid_math_bits_deBruijn64tab), ("candling/host.forms", laid_candling_host_forms)], narrowed := true }
def CacheStatesUptoSaid : Prop := cacheStatesUptoRow.holds Tryz.pinned (OpenSpec.upto cacheStatesSpec)

/-- 'candlinglaw21.CacheSaved', WHERE WHAT IT READS IS OF BULK AT MOST 1048576: true; the input reads as it did. -/
def cacheSavedUptoRow : OpenClaim := { program := "ytepbaneageipfaagreatdoor", sum := "31925bebda0254178cccf9f4773663086c9e0e99d669887b01e9b04cd9dac1c6", func := "candling/candlinglaw21.CacheSaved", spec := "cacheSaved", inPlace := ["maps.clone"], unfollowed := true, recurses := true, named := ["candling/host.forms", "math/bits.deBruijn32tab", "math/bits.deBruijn64tab"], plainKeys := false, apart := false, laid := [("math/bits.deBruijn32tab", laid_math_bits_deBruijn32tab), ("math/bits.deBruijn64tab", laid_math_bits_deBruijn64tab), ("candling/host.forms", laid_candling_host_forms)], narrowed := true }
def CacheSavedUptoSaid : Prop := cacheSavedUptoRow.holds Tryz.pinned (OpenSpec.upto cacheSavedSpec)

/-- 'candlinglaw21.CachePlays', WHERE WHAT IT READS IS OF BULK AT MOST 1048576: true; the input reads as it did. -/
def cachePlaysUptoRow : OpenClaim := { program := "ytepbaneageipfaagreatdoor", sum := "31925bebda0254178cccf9f4773663086c9e0e99d669887b01e9b04cd9dac1c6", func := "candling/candlinglaw21.CachePlays", spec := "cachePlays", inPlace := ["maps.clone"], unfollowed := true, recurses := true, named := ["candling/host.forms", "math/bits.deBruijn32tab", "math/bits.deBruijn64tab"], plainKeys := false, apart := false, laid := [("math/bits.deBruijn32tab", laid_math_bits_deBruijn32tab), ("math/bits.deBruijn64tab", laid_math_bits_deBruijn64tab), ("candling/host.forms", laid_candling_host_forms)], narrowed := true }
def CachePlaysUptoSaid : Prop := cachePlaysUptoRow.holds Tryz.pinned (OpenSpec.upto cachePlaysSpec)

end Rows
end Go.Proofs.YtepbaneageipfaaGreatDoor
