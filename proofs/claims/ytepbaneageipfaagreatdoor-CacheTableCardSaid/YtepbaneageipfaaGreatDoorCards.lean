/-
  DERIVED. GIVEN WITH THE SEED: THE CARDS: each row of YtepbaneageipfaaGreatDoorRows.lean that lists a variable, with what it lists TIED to the program's text (the seventh form; the later family's looks); each row that meets fmt, with fmt's text TOLD by the authors' own Lean function (tested against real Go, not proved from fmt's source: count such statements apart). THE CARD IS WHAT COUNTS. Prove the row's statement (the work); the ties are given (YtepbaneageipfaaGreatDoorTie.lean); close each card by the builder's one call (the guide's Derived/Test/ToyasCard.lean, 'card_holds'). Laid BY PROGRAM, IN A SANDBOX (cutbox-door.mjs). By AI agents, Wed Nov 11 2026. No macro, syntax, notation, axiom, sorry.
-/
import Derived.Test.YtepbaneageipfaaGreatDoorRows
import GoSem.ClaimSeven
namespace Go.Proofs.YtepbaneageipfaaGreatDoor
namespace Rows

/-- THE TIED CARD OF 'candlinglaw21.CacheProbes'. -/
def cacheProbesCard : Claim7 := { stood := { row := cacheProbesRow, standIns := [], harness := (true, "7241155afdb9d0d1f9bab0e5c725654399425f91bba8db0dfffcda845c3196ba"), looks := true }, kinds := [], alts := [], laidByText := true, laidKinds := [.data, .data, .data], laidTests := true, laidLooks := .later }
def CacheProbesCardSaid : Prop := Claim7.holds Tryz.pinned (.plain (OpenSpec.ofChange cacheProbesSpec)) cacheProbesCard

/-- THE TIED CARD OF 'candlinglaw21.CacheChains'. -/
def cacheChainsCard : Claim7 := { stood := { row := cacheChainsRow, standIns := [], harness := (true, "7241155afdb9d0d1f9bab0e5c725654399425f91bba8db0dfffcda845c3196ba"), looks := true }, kinds := [], alts := [], laidByText := true, laidKinds := [.data, .data, .data], laidTests := true, laidLooks := .later }
def CacheChainsCardSaid : Prop := Claim7.holds Tryz.pinned (.plain (OpenSpec.ofChange cacheChainsSpec)) cacheChainsCard

/-- THE TIED CARD OF 'candlinglaw21.CacheFinds'. -/
def cacheFindsCard : Claim7 := { stood := { row := cacheFindsRow, standIns := [], harness := (true, "7241155afdb9d0d1f9bab0e5c725654399425f91bba8db0dfffcda845c3196ba"), looks := true }, kinds := [], alts := [], laidByText := true, laidKinds := [.data, .data, .data], laidTests := true, laidLooks := .later }
def CacheFindsCardSaid : Prop := Claim7.holds Tryz.pinned (.plain (OpenSpec.ofChange cacheFindsSpec)) cacheFindsCard

/-- THE TIED CARD OF 'candlinglaw21.CacheRoom'. -/
def cacheRoomCard : Claim7 := { stood := { row := cacheRoomRow, standIns := [], harness := (true, "7241155afdb9d0d1f9bab0e5c725654399425f91bba8db0dfffcda845c3196ba"), looks := true }, kinds := [], alts := [], laidByText := true, laidKinds := [.data, .data, .data], laidTests := true, laidLooks := .later }
def CacheRoomCardSaid : Prop := Claim7.holds Tryz.pinned (.plain (OpenSpec.ofChange cacheRoomSpec)) cacheRoomCard

/-- THE TIED CARD OF 'candlinglaw21.CacheOrder'. -/
def cacheOrderCard : Claim7 := { stood := { row := cacheOrderRow, standIns := [], harness := (true, "7241155afdb9d0d1f9bab0e5c725654399425f91bba8db0dfffcda845c3196ba"), looks := true }, kinds := [], alts := [], laidByText := true, laidKinds := [.data, .data, .data], laidTests := true, laidLooks := .later }
def CacheOrderCardSaid : Prop := Claim7.holds Tryz.pinned (.plain (OpenSpec.ofChange cacheOrderSpec)) cacheOrderCard

/-- THE TIED CARD OF 'candlinglaw21.CacheCounts'. -/
def cacheCountsCard : Claim7 := { stood := { row := cacheCountsRow, standIns := [], harness := (true, "7241155afdb9d0d1f9bab0e5c725654399425f91bba8db0dfffcda845c3196ba"), looks := true }, kinds := [], alts := [], laidByText := true, laidKinds := [.data, .data, .data], laidTests := true, laidLooks := .later }
def CacheCountsCardSaid : Prop := Claim7.holds Tryz.pinned (.plain (OpenSpec.ofChange cacheCountsSpec)) cacheCountsCard

/-- THE TIED CARD OF 'candlinglaw21.CacheTable'. -/
def cacheTableCard : Claim7 := { stood := { row := cacheTableRow, standIns := [], harness := (true, "7241155afdb9d0d1f9bab0e5c725654399425f91bba8db0dfffcda845c3196ba"), looks := true }, kinds := [], alts := [], laidByText := true, laidKinds := [.data, .data, .data], laidTests := true, laidLooks := .later }
def CacheTableCardSaid : Prop := Claim7.holds Tryz.pinned (.plain (OpenSpec.ofChange cacheTableSpec)) cacheTableCard

/-- THE TIED CARD OF 'candlinglaw21.CacheDrops'. -/
def cacheDropsCard : Claim7 := { stood := { row := cacheDropsRow, standIns := [], harness := (true, "7241155afdb9d0d1f9bab0e5c725654399425f91bba8db0dfffcda845c3196ba"), looks := true }, kinds := [], alts := [], laidByText := true, laidKinds := [.data, .data, .data], laidTests := true, laidLooks := .later }
def CacheDropsCardSaid : Prop := Claim7.holds Tryz.pinned (.plain (OpenSpec.ofChange cacheDropsSpec)) cacheDropsCard

/-- THE TIED CARD OF 'candlinglaw21.CacheNil'. -/
def cacheNilCard : Claim7 := { stood := { row := cacheNilRow, standIns := [], harness := (true, "7241155afdb9d0d1f9bab0e5c725654399425f91bba8db0dfffcda845c3196ba"), looks := true }, kinds := [], alts := [], laidByText := true, laidKinds := [.data, .data, .data], laidTests := true, laidLooks := .later }
def CacheNilCardSaid : Prop := Claim7.holds Tryz.pinned (.plain (OpenSpec.ofChange cacheNilSpec)) cacheNilCard

/-- THE TIED CARD OF 'candlinglaw21.CacheStates'. -/
def cacheStatesCard : Claim7 := { stood := { row := cacheStatesRow, standIns := [], harness := (true, "7241155afdb9d0d1f9bab0e5c725654399425f91bba8db0dfffcda845c3196ba"), looks := true }, kinds := [], alts := [], laidByText := true, laidKinds := [.data, .data, .data], laidTests := true, laidLooks := .later }
def CacheStatesCardSaid : Prop := Claim7.holds Tryz.pinned (.plain (OpenSpec.ofChange cacheStatesSpec)) cacheStatesCard

/-- THE TIED CARD OF 'candlinglaw21.CacheSaved'. -/
def cacheSavedCard : Claim7 := { stood := { row := cacheSavedRow, standIns := [], harness := (true, "7241155afdb9d0d1f9bab0e5c725654399425f91bba8db0dfffcda845c3196ba"), looks := true }, kinds := [], alts := [], laidByText := true, laidKinds := [.data, .data, .data], laidTests := true, laidLooks := .later }
def CacheSavedCardSaid : Prop := Claim7.holds Tryz.pinned (.plain (OpenSpec.ofChange cacheSavedSpec)) cacheSavedCard

/-- THE TIED CARD OF 'candlinglaw21.CachePlays'. -/
def cachePlaysCard : Claim7 := { stood := { row := cachePlaysRow, standIns := [], harness := (true, "7241155afdb9d0d1f9bab0e5c725654399425f91bba8db0dfffcda845c3196ba"), looks := true }, kinds := [], alts := [], laidByText := true, laidKinds := [.data, .data, .data], laidTests := true, laidLooks := .later }
def CachePlaysCardSaid : Prop := Claim7.holds Tryz.pinned (.plain (OpenSpec.ofChange cachePlaysSpec)) cachePlaysCard

/-- THE SECOND FORM's CARD OF 'candlinglaw21.CacheProbes'. -/
def cacheProbesUptoCard : Claim7 := { stood := { row := cacheProbesUptoRow, standIns := [], harness := (true, "7241155afdb9d0d1f9bab0e5c725654399425f91bba8db0dfffcda845c3196ba"), looks := true }, kinds := [], alts := [], laidByText := true, laidKinds := [.data, .data, .data], laidTests := true, laidLooks := .later }
def CacheProbesUptoCardSaid : Prop := Claim7.holds Tryz.pinned (.plain (OpenSpec.upto cacheProbesSpec)) cacheProbesUptoCard

/-- THE SECOND FORM's CARD OF 'candlinglaw21.CacheChains'. -/
def cacheChainsUptoCard : Claim7 := { stood := { row := cacheChainsUptoRow, standIns := [], harness := (true, "7241155afdb9d0d1f9bab0e5c725654399425f91bba8db0dfffcda845c3196ba"), looks := true }, kinds := [], alts := [], laidByText := true, laidKinds := [.data, .data, .data], laidTests := true, laidLooks := .later }
def CacheChainsUptoCardSaid : Prop := Claim7.holds Tryz.pinned (.plain (OpenSpec.upto cacheChainsSpec)) cacheChainsUptoCard

/-- THE SECOND FORM's CARD OF 'candlinglaw21.CacheFinds'. -/
def cacheFindsUptoCard : Claim7 := { stood := { row := cacheFindsUptoRow, standIns := [], harness := (true, "7241155afdb9d0d1f9bab0e5c725654399425f91bba8db0dfffcda845c3196ba"), looks := true }, kinds := [], alts := [], laidByText := true, laidKinds := [.data, .data, .data], laidTests := true, laidLooks := .later }
def CacheFindsUptoCardSaid : Prop := Claim7.holds Tryz.pinned (.plain (OpenSpec.upto cacheFindsSpec)) cacheFindsUptoCard

/-- THE SECOND FORM's CARD OF 'candlinglaw21.CacheRoom'. -/
def cacheRoomUptoCard : Claim7 := { stood := { row := cacheRoomUptoRow, standIns := [], harness := (true, "7241155afdb9d0d1f9bab0e5c725654399425f91bba8db0dfffcda845c3196ba"), looks := true }, kinds := [], alts := [], laidByText := true, laidKinds := [.data, .data, .data], laidTests := true, laidLooks := .later }
def CacheRoomUptoCardSaid : Prop := Claim7.holds Tryz.pinned (.plain (OpenSpec.upto cacheRoomSpec)) cacheRoomUptoCard

/-- THE SECOND FORM's CARD OF 'candlinglaw21.CacheOrder'. -/
def cacheOrderUptoCard : Claim7 := { stood := { row := cacheOrderUptoRow, standIns := [], harness := (true, "7241155afdb9d0d1f9bab0e5c725654399425f91bba8db0dfffcda845c3196ba"), looks := true }, kinds := [], alts := [], laidByText := true, laidKinds := [.data, .data, .data], laidTests := true, laidLooks := .later }
def CacheOrderUptoCardSaid : Prop := Claim7.holds Tryz.pinned (.plain (OpenSpec.upto cacheOrderSpec)) cacheOrderUptoCard

/-- THE SECOND FORM's CARD OF 'candlinglaw21.CacheCounts'. -/
def cacheCountsUptoCard : Claim7 := { stood := { row := cacheCountsUptoRow, standIns := [], harness := (true, "7241155afdb9d0d1f9bab0e5c725654399425f91bba8db0dfffcda845c3196ba"), looks := true }, kinds := [], alts := [], laidByText := true, laidKinds := [.data, .data, .data], laidTests := true, laidLooks := .later }
def CacheCountsUptoCardSaid : Prop := Claim7.holds Tryz.pinned (.plain (OpenSpec.upto cacheCountsSpec)) cacheCountsUptoCard

/-- THE SECOND FORM's CARD OF 'candlinglaw21.CacheTable'. -/
def cacheTableUptoCard : Claim7 := { stood := { row := cacheTableUptoRow, standIns := [], harness := (true, "7241155afdb9d0d1f9bab0e5c725654399425f91bba8db0dfffcda845c3196ba"), looks := true }, kinds := [], alts := [], laidByText := true, laidKinds := [.data, .data, .data], laidTests := true, laidLooks := .later }
def CacheTableUptoCardSaid : Prop := Claim7.holds Tryz.pinned (.plain (OpenSpec.upto cacheTableSpec)) cacheTableUptoCard

/-- THE SECOND FORM's CARD OF 'candlinglaw21.CacheDrops'. -/
def cacheDropsUptoCard : Claim7 := { stood := { row := cacheDropsUptoRow, standIns := [], harness := (true, "7241155afdb9d0d1f9bab0e5c725654399425f91bba8db0dfffcda845c3196ba"), looks := true }, kinds := [], alts := [], laidByText := true, laidKinds := [.data, .data, .data], laidTests := true, laidLooks := .later }
def CacheDropsUptoCardSaid : Prop := Claim7.holds Tryz.pinned (.plain (OpenSpec.upto cacheDropsSpec)) cacheDropsUptoCard

/-- THE SECOND FORM's CARD OF 'candlinglaw21.CacheNil'. -/
def cacheNilUptoCard : Claim7 := { stood := { row := cacheNilUptoRow, standIns := [], harness := (true, "7241155afdb9d0d1f9bab0e5c725654399425f91bba8db0dfffcda845c3196ba"), looks := true }, kinds := [], alts := [], laidByText := true, laidKinds := [.data, .data, .data], laidTests := true, laidLooks := .later }
def CacheNilUptoCardSaid : Prop := Claim7.holds Tryz.pinned (.plain (OpenSpec.upto cacheNilSpec)) cacheNilUptoCard

/-- THE SECOND FORM's CARD OF 'candlinglaw21.CacheStates'. -/
def cacheStatesUptoCard : Claim7 := { stood := { row := cacheStatesUptoRow, standIns := [], harness := (true, "7241155afdb9d0d1f9bab0e5c725654399425f91bba8db0dfffcda845c3196ba"), looks := true }, kinds := [], alts := [], laidByText := true, laidKinds := [.data, .data, .data], laidTests := true, laidLooks := .later }
def CacheStatesUptoCardSaid : Prop := Claim7.holds Tryz.pinned (.plain (OpenSpec.upto cacheStatesSpec)) cacheStatesUptoCard

/-- THE SECOND FORM's CARD OF 'candlinglaw21.CacheSaved'. -/
def cacheSavedUptoCard : Claim7 := { stood := { row := cacheSavedUptoRow, standIns := [], harness := (true, "7241155afdb9d0d1f9bab0e5c725654399425f91bba8db0dfffcda845c3196ba"), looks := true }, kinds := [], alts := [], laidByText := true, laidKinds := [.data, .data, .data], laidTests := true, laidLooks := .later }
def CacheSavedUptoCardSaid : Prop := Claim7.holds Tryz.pinned (.plain (OpenSpec.upto cacheSavedSpec)) cacheSavedUptoCard

/-- THE SECOND FORM's CARD OF 'candlinglaw21.CachePlays'. -/
def cachePlaysUptoCard : Claim7 := { stood := { row := cachePlaysUptoRow, standIns := [], harness := (true, "7241155afdb9d0d1f9bab0e5c725654399425f91bba8db0dfffcda845c3196ba"), looks := true }, kinds := [], alts := [], laidByText := true, laidKinds := [.data, .data, .data], laidTests := true, laidLooks := .later }
def CachePlaysUptoCardSaid : Prop := Claim7.holds Tryz.pinned (.plain (OpenSpec.upto cachePlaysSpec)) cachePlaysUptoCard
end Rows
end Go.Proofs.YtepbaneageipfaaGreatDoor
