/-
  DERIVED. GIVEN WITH THE SEED: THE CARDS: each row of YtciilodpnepdbaaDoorRows.lean that lists a variable, with what it lists TIED to the program's text (the seventh form; the later family's looks); each row that meets fmt, with fmt's text TOLD by the authors' own Lean function (tested against real Go, not proved from fmt's source: count such statements apart). THE CARD IS WHAT COUNTS. Prove the row's statement (the work); the ties are given (YtciilodpnepdbaaDoorTie.lean); close each card by the builder's one call (the guide's Derived/Test/ToyasCard.lean, 'card_holds'). Laid BY PROGRAM, IN A SANDBOX (cutbox-door.mjs). By AI agents, Wed Nov 11 2026. No macro, syntax, notation, axiom, sorry.
-/
import Derived.Test.YtciilodpnepdbaaDoorRows
import GoSem.ClaimSeven
namespace Go.Proofs.YtciilodpnepdbaaDoor
namespace Rows

/-- THE TIED CARD OF 'signallinglaw26.ExploreFinds'. -/
def exploreFindsCard : Claim7 := { stood := { row := exploreFindsRow, standIns := [], harness := (true, "9f736b7cdff668c6065493329b2883df261ae34620f5a6a87189aa908d769f04"), looks := true }, kinds := [], alts := [], laidByText := true, laidKinds := [.data, .data, .data], laidTests := true, laidLooks := .later }
def ExploreFindsCardSaid : Prop := Claim7.holds Tryd.pinned (.plain (OpenSpec.ofChange exploreFindsSpec)) exploreFindsCard

/-- THE TIED CARD OF 'signallinglaw26.ExploreCounts'. -/
def exploreCountsCard : Claim7 := { stood := { row := exploreCountsRow, standIns := [], harness := (true, "9f736b7cdff668c6065493329b2883df261ae34620f5a6a87189aa908d769f04"), looks := true }, kinds := [], alts := [], laidByText := true, laidKinds := [.data, .data, .data], laidTests := true, laidLooks := .later }
def ExploreCountsCardSaid : Prop := Claim7.holds Tryd.pinned (.plain (OpenSpec.ofChange exploreCountsSpec)) exploreCountsCard

/-- THE TIED CARD OF 'signallinglaw26.ExploreReplays'. -/
def exploreReplaysCard : Claim7 := { stood := { row := exploreReplaysRow, standIns := [], harness := (true, "9f736b7cdff668c6065493329b2883df261ae34620f5a6a87189aa908d769f04"), looks := true }, kinds := [], alts := [], laidByText := true, laidKinds := [.data, .data, .data], laidTests := true, laidLooks := .later }
def ExploreReplaysCardSaid : Prop := Claim7.holds Tryd.pinned (.plain (OpenSpec.ofChange exploreReplaysSpec)) exploreReplaysCard

/-- THE TIED CARD OF 'signallinglaw26.ExploreShortest'. -/
def exploreShortestCard : Claim7 := { stood := { row := exploreShortestRow, standIns := [], harness := (true, "9f736b7cdff668c6065493329b2883df261ae34620f5a6a87189aa908d769f04"), looks := true }, kinds := [], alts := [], laidByText := true, laidKinds := [.data, .data, .data], laidTests := true, laidLooks := .later }
def ExploreShortestCardSaid : Prop := Claim7.holds Tryd.pinned (.plain (OpenSpec.ofChange exploreShortestSpec)) exploreShortestCard

/-- THE TIED CARD OF 'signallinglaw26.ExploreDeeper'. -/
def exploreDeeperCard : Claim7 := { stood := { row := exploreDeeperRow, standIns := [], harness := (true, "9f736b7cdff668c6065493329b2883df261ae34620f5a6a87189aa908d769f04"), looks := true }, kinds := [], alts := [], laidByText := true, laidKinds := [.data, .data, .data], laidTests := true, laidLooks := .later }
def ExploreDeeperCardSaid : Prop := Claim7.holds Tryd.pinned (.plain (OpenSpec.ofChange exploreDeeperSpec)) exploreDeeperCard

/-- THE SECOND FORM's CARD OF 'signallinglaw26.ExploreFinds'. -/
def exploreFindsUptoCard : Claim7 := { stood := { row := exploreFindsUptoRow, standIns := [], harness := (true, "9f736b7cdff668c6065493329b2883df261ae34620f5a6a87189aa908d769f04"), looks := true }, kinds := [], alts := [], laidByText := true, laidKinds := [.data, .data, .data], laidTests := true, laidLooks := .later }
def ExploreFindsUptoCardSaid : Prop := Claim7.holds Tryd.pinned (.plain (OpenSpec.upto exploreFindsSpec)) exploreFindsUptoCard

/-- THE SECOND FORM's CARD OF 'signallinglaw26.ExploreCounts'. -/
def exploreCountsUptoCard : Claim7 := { stood := { row := exploreCountsUptoRow, standIns := [], harness := (true, "9f736b7cdff668c6065493329b2883df261ae34620f5a6a87189aa908d769f04"), looks := true }, kinds := [], alts := [], laidByText := true, laidKinds := [.data, .data, .data], laidTests := true, laidLooks := .later }
def ExploreCountsUptoCardSaid : Prop := Claim7.holds Tryd.pinned (.plain (OpenSpec.upto exploreCountsSpec)) exploreCountsUptoCard

/-- THE SECOND FORM's CARD OF 'signallinglaw26.ExploreReplays'. -/
def exploreReplaysUptoCard : Claim7 := { stood := { row := exploreReplaysUptoRow, standIns := [], harness := (true, "9f736b7cdff668c6065493329b2883df261ae34620f5a6a87189aa908d769f04"), looks := true }, kinds := [], alts := [], laidByText := true, laidKinds := [.data, .data, .data], laidTests := true, laidLooks := .later }
def ExploreReplaysUptoCardSaid : Prop := Claim7.holds Tryd.pinned (.plain (OpenSpec.upto exploreReplaysSpec)) exploreReplaysUptoCard

/-- THE SECOND FORM's CARD OF 'signallinglaw26.ExploreShortest'. -/
def exploreShortestUptoCard : Claim7 := { stood := { row := exploreShortestUptoRow, standIns := [], harness := (true, "9f736b7cdff668c6065493329b2883df261ae34620f5a6a87189aa908d769f04"), looks := true }, kinds := [], alts := [], laidByText := true, laidKinds := [.data, .data, .data], laidTests := true, laidLooks := .later }
def ExploreShortestUptoCardSaid : Prop := Claim7.holds Tryd.pinned (.plain (OpenSpec.upto exploreShortestSpec)) exploreShortestUptoCard

/-- THE SECOND FORM's CARD OF 'signallinglaw26.ExploreDeeper'. -/
def exploreDeeperUptoCard : Claim7 := { stood := { row := exploreDeeperUptoRow, standIns := [], harness := (true, "9f736b7cdff668c6065493329b2883df261ae34620f5a6a87189aa908d769f04"), looks := true }, kinds := [], alts := [], laidByText := true, laidKinds := [.data, .data, .data], laidTests := true, laidLooks := .later }
def ExploreDeeperUptoCardSaid : Prop := Claim7.holds Tryd.pinned (.plain (OpenSpec.upto exploreDeeperSpec)) exploreDeeperUptoCard
end Rows
end Go.Proofs.YtciilodpnepdbaaDoor
