/-
  NARROWER THAN 'FOR EVERY INPUT', by the rows' own cells (each row's printed sentence says how): ExploreFinds: loops, laid · ExploreCounts: loops, laid · ExploreReplays: loops, laid · ExploreShortest: loops, laid · ExploreDeeper: loops, laid.
  DERIVED. THE GIVEN ROWS OF THIS SEAT. 5 by the template 'for every input the law returns true; each argument reads behind the call as it read before'; 0 by the template 'total and deterministic' (their statements: YtciilodpnepdbaaDoorTotals.lean).
  GIVEN WITH THE SEED: the statements are not yours to turn. If you find one false, say at which input.
  Laid BY PROGRAM, IN A SANDBOX (cutbox-rows.mjs): the forced cells as the released guide's own fill.sh prints them over the translation c22fce8dd831740b… (all of the seat's roots in one cut). By AI agents, Wed Nov 11 2026. No macro, syntax, notation, axiom, sorry.
-/
import Derived.Test.YtciilodpnepdbaaDoorChecked
import GoSem.Claim
import GoSem.ClaimJoined
import GoSem.ClaimMapViews
import Derived.JoinedTies
import Derived.KernelRfl
namespace Go.Proofs.YtciilodpnepdbaaDoor
/- THE CELL 'sum', in the pinned program and in every row, IS THE sha256 OF THE DUMP (.gsa) THAT YtciilodpnepdbaaDoorProg.lean LOADS. Nothing in Lean hashes anything: it is a label: what it is worth is what the hold of that sum in a sandbox is worth. -/
noncomputable def Tryd.pinned : Pinned := { name := "ytciilodpnepdbaadoor", sum := "c22fce8dd831740b86ea9ada6b50dd88b95d84bfec4c0d12f2046f231750a3a5", checked := Tryd.checked }
namespace Rows
def none {H : Type} : Left H := { results := [], args := [] }

/- WHAT THE LISTED PACKAGE-LEVEL VARIABLES READ AS WHEN THE CALL BEGINS. Each datum BY PROGRAM (the guide's laid-datum.mjs) off the statement by which the dump's own 'gosem.cut.vars' lays the variable. In a bare row this is a premise. The card (YtciilodpnepdbaaDoorCards.lean) ties it to the program's text. -/
def laid_math_bits_deBruijn32tab {H : Type} : DataW H := .agg [.lit (.int .u8 0), .lit (.int .u8 1), .lit (.int .u8 28), .lit (.int .u8 2), .lit (.int .u8 29), .lit (.int .u8 14), .lit (.int .u8 24), .lit (.int .u8 3), .lit (.int .u8 30), .lit (.int .u8 22), .lit (.int .u8 20), .lit (.int .u8 15), .lit (.int .u8 25), .lit (.int .u8 17), .lit (.int .u8 4), .lit (.int .u8 8), .lit (.int .u8 31), .lit (.int .u8 27), .lit (.int .u8 13), .lit (.int .u8 23), .lit (.int .u8 21), .lit (.int .u8 19), .lit (.int .u8 16), .lit (.int .u8 7), .lit (.int .u8 26), .lit (.int .u8 12), .lit (.int .u8 18), .lit (.int .u8 6), .lit (.int .u8 11), .lit (.int .u8 5), .lit (.int .u8 10), .lit (.int .u8 9)]
def laid_math_bits_deBruijn64tab {H : Type} : DataW H := .agg [.lit (.int .u8 0), .lit (.int .u8 1), .lit (.int .u8 56), .lit (.int .u8 2), .lit (.int .u8 57), .lit (.int .u8 49), .lit (.int .u8 28), .lit (.int .u8 3), .lit (.int .u8 61), .lit (.int .u8 58), .lit (.int .u8 42), .lit (.int .u8 50), .lit (.int .u8 38), .lit (.int .u8 29), .lit (.int .u8 17), .lit (.int .u8 4), .lit (.int .u8 62), .lit (.int .u8 47), .lit (.int .u8 59), .lit (.int .u8 36), .lit (.int .u8 45), .lit (.int .u8 43), .lit (.int .u8 51), .lit (.int .u8 22), .lit (.int .u8 53), .lit (.int .u8 39), .lit (.int .u8 33), .lit (.int .u8 30), .lit (.int .u8 24), .lit (.int .u8 18), .lit (.int .u8 12), .lit (.int .u8 5), .lit (.int .u8 63), .lit (.int .u8 55), .lit (.int .u8 48), .lit (.int .u8 27), .lit (.int .u8 60), .lit (.int .u8 41), .lit (.int .u8 37), .lit (.int .u8 16), .lit (.int .u8 46), .lit (.int .u8 35), .lit (.int .u8 44), .lit (.int .u8 21), .lit (.int .u8 52), .lit (.int .u8 32), .lit (.int .u8 23), .lit (.int .u8 11), .lit (.int .u8 54), .lit (.int .u8 26), .lit (.int .u8 40), .lit (.int .u8 15), .lit (.int .u8 34), .lit (.int .u8 20), .lit (.int .u8 31), .lit (.int .u8 10), .lit (.int .u8 25), .lit (.int .u8 14), .lit (.int .u8 19), .lit (.int .u8 9), .lit (.int .u8 13), .lit (.int .u8 8), .lit (.int .u8 7), .lit (.int .u8 6)]
def laid_internal_strconv_uint64pow10 {H : Type} : DataW H := .agg [.lit (.int .u64 1), .lit (.int .u64 10), .lit (.int .u64 100), .lit (.int .u64 1000), .lit (.int .u64 10000), .lit (.int .u64 100000), .lit (.int .u64 1000000), .lit (.int .u64 10000000), .lit (.int .u64 100000000), .lit (.int .u64 1000000000), .lit (.int .u64 10000000000), .lit (.int .u64 100000000000), .lit (.int .u64 1000000000000), .lit (.int .u64 10000000000000), .lit (.int .u64 100000000000000), .lit (.int .u64 1000000000000000), .lit (.int .u64 10000000000000000), .lit (.int .u64 100000000000000000), .lit (.int .u64 1000000000000000000), .lit (.int .u64 10000000000000000000)]

/-- 'signallinglaw26.ExploreFinds': WHATEVER THE INPUT: true; the input reads as it did. -/
def exploreFindsSpec : ChangeSpec := { name := "exploreFinds", fn := fun _ => fun
  | [d1, d2, d3, d4] => { results := [.lit (.bool true)], args := [d1, d2, d3, d4] }
  | _ => none }
def exploreFindsRow : OpenClaim := { program := "ytciilodpnepdbaadoor", sum := "c22fce8dd831740b86ea9ada6b50dd88b95d84bfec4c0d12f2046f231750a3a5", func := "signalling/signallinglaw26.ExploreFinds", spec := "exploreFinds", unfollowed := true, recurses := true, named := ["internal/strconv.uint64pow10", "math/bits.deBruijn32tab", "math/bits.deBruijn64tab"], loops := true, apart := false, laid := [("math/bits.deBruijn32tab", laid_math_bits_deBruijn32tab), ("math/bits.deBruijn64tab", laid_math_bits_deBruijn64tab), ("internal/strconv.uint64pow10", laid_internal_strconv_uint64pow10)] }
def ExploreFindsSaid : Prop := exploreFindsRow.holds Tryd.pinned (OpenSpec.ofChange exploreFindsSpec)

/-- ITS FALSE NEIGHBOUR: 'it returns false'. Refute it at one input. -/
def exploreFindsWrong : ChangeSpec := { name := "exploreFinds", fn := fun _ => fun
  | [d1, d2, d3, d4] => { results := [.lit (.bool false)], args := [d1, d2, d3, d4] }
  | _ => none }
def ExploreFindsWrongFalsely : Prop := exploreFindsRow.holds Tryd.pinned (OpenSpec.ofChange exploreFindsWrong)

/-- 'signallinglaw26.ExploreCounts': WHATEVER THE INPUT: true; the input reads as it did. -/
def exploreCountsSpec : ChangeSpec := { name := "exploreCounts", fn := fun _ => fun
  | [d1, d2, d3] => { results := [.lit (.bool true)], args := [d1, d2, d3] }
  | _ => none }
def exploreCountsRow : OpenClaim := { program := "ytciilodpnepdbaadoor", sum := "c22fce8dd831740b86ea9ada6b50dd88b95d84bfec4c0d12f2046f231750a3a5", func := "signalling/signallinglaw26.ExploreCounts", spec := "exploreCounts", unfollowed := true, recurses := true, named := ["internal/strconv.uint64pow10", "math/bits.deBruijn32tab", "math/bits.deBruijn64tab"], loops := true, apart := false, laid := [("math/bits.deBruijn32tab", laid_math_bits_deBruijn32tab), ("math/bits.deBruijn64tab", laid_math_bits_deBruijn64tab), ("internal/strconv.uint64pow10", laid_internal_strconv_uint64pow10)] }
def ExploreCountsSaid : Prop := exploreCountsRow.holds Tryd.pinned (OpenSpec.ofChange exploreCountsSpec)

/-- ITS FALSE NEIGHBOUR: 'it returns false'. Refute it at one input. -/
def exploreCountsWrong : ChangeSpec := { name := "exploreCounts", fn := fun _ => fun
  | [d1, d2, d3] => { results := [.lit (.bool false)], args := [d1, d2, d3] }
  | _ => none }
def ExploreCountsWrongFalsely : Prop := exploreCountsRow.holds Tryd.pinned (OpenSpec.ofChange exploreCountsWrong)

/-- 'signallinglaw26.ExploreReplays': WHATEVER THE INPUT: true; the input reads as it did. -/
def exploreReplaysSpec : ChangeSpec := { name := "exploreReplays", fn := fun _ => fun
  | [d1, d2, d3] => { results := [.lit (.bool true)], args := [d1, d2, d3] }
  | _ => none }
def exploreReplaysRow : OpenClaim := { program := "ytciilodpnepdbaadoor", sum := "c22fce8dd831740b86ea9ada6b50dd88b95d84bfec4c0d12f2046f231750a3a5", func := "signalling/signallinglaw26.ExploreReplays", spec := "exploreReplays", unfollowed := true, recurses := true, named := ["internal/strconv.uint64pow10", "math/bits.deBruijn32tab", "math/bits.deBruijn64tab"], loops := true, apart := false, laid := [("math/bits.deBruijn32tab", laid_math_bits_deBruijn32tab), ("math/bits.deBruijn64tab", laid_math_bits_deBruijn64tab), ("internal/strconv.uint64pow10", laid_internal_strconv_uint64pow10)] }
def ExploreReplaysSaid : Prop := exploreReplaysRow.holds Tryd.pinned (OpenSpec.ofChange exploreReplaysSpec)

/-- ITS FALSE NEIGHBOUR: 'it returns false'. Refute it at one input. -/
def exploreReplaysWrong : ChangeSpec := { name := "exploreReplays", fn := fun _ => fun
  | [d1, d2, d3] => { results := [.lit (.bool false)], args := [d1, d2, d3] }
  | _ => none }
def ExploreReplaysWrongFalsely : Prop := exploreReplaysRow.holds Tryd.pinned (OpenSpec.ofChange exploreReplaysWrong)

/-- 'signallinglaw26.ExploreShortest': WHATEVER THE INPUT: true; the input reads as it did. -/
def exploreShortestSpec : ChangeSpec := { name := "exploreShortest", fn := fun _ => fun
  | [d1, d2, d3, d4] => { results := [.lit (.bool true)], args := [d1, d2, d3, d4] }
  | _ => none }
def exploreShortestRow : OpenClaim := { program := "ytciilodpnepdbaadoor", sum := "c22fce8dd831740b86ea9ada6b50dd88b95d84bfec4c0d12f2046f231750a3a5", func := "signalling/signallinglaw26.ExploreShortest", spec := "exploreShortest", unfollowed := true, recurses := true, named := ["internal/strconv.uint64pow10", "math/bits.deBruijn32tab", "math/bits.deBruijn64tab"], loops := true, apart := false, laid := [("math/bits.deBruijn32tab", laid_math_bits_deBruijn32tab), ("math/bits.deBruijn64tab", laid_math_bits_deBruijn64tab), ("internal/strconv.uint64pow10", laid_internal_strconv_uint64pow10)] }
def ExploreShortestSaid : Prop := exploreShortestRow.holds Tryd.pinned (OpenSpec.ofChange exploreShortestSpec)

/-- ITS FALSE NEIGHBOUR: 'it returns false'. Refute it at one input. -/
def exploreShortestWrong : ChangeSpec := { name := "exploreShortest", fn := fun _ => fun
  | [d1, d2, d3, d4] => { results := [.lit (.bool false)], args := [d1, d2, d3, d4] }
  | _ => none }
def ExploreShortestWrongFalsely : Prop := exploreShortestRow.holds Tryd.pinned (OpenSpec.ofChange exploreShortestWrong)

/-- 'signallinglaw26.ExploreDeeper': WHATEVER THE INPUT: true; the input reads as it did. -/
def exploreDeeperSpec : ChangeSpec := { name := "exploreDeeper", fn := fun _ => fun
  | [d1, d2, d3, d4, d5] => { results := [.lit (.bool true)], args := [d1, d2, d3, d4, d5] }
  | _ => none }
def exploreDeeperRow : OpenClaim := { program := "ytciilodpnepdbaadoor", sum := "c22fce8dd831740b86ea9ada6b50dd88b95d84bfec4c0d12f2046f231750a3a5", func := "signalling/signallinglaw26.ExploreDeeper", spec := "exploreDeeper", unfollowed := true, recurses := true, named := ["internal/strconv.uint64pow10", "math/bits.deBruijn32tab", "math/bits.deBruijn64tab"], loops := true, apart := false, laid := [("math/bits.deBruijn32tab", laid_math_bits_deBruijn32tab), ("math/bits.deBruijn64tab", laid_math_bits_deBruijn64tab), ("internal/strconv.uint64pow10", laid_internal_strconv_uint64pow10)] }
def ExploreDeeperSaid : Prop := exploreDeeperRow.holds Tryd.pinned (OpenSpec.ofChange exploreDeeperSpec)

/-- ITS FALSE NEIGHBOUR: 'it returns false'. Refute it at one input. -/
def exploreDeeperWrong : ChangeSpec := { name := "exploreDeeper", fn := fun _ => fun
  | [d1, d2, d3, d4, d5] => { results := [.lit (.bool false)], args := [d1, d2, d3, d4, d5] }
  | _ => none }
def ExploreDeeperWrongFalsely : Prop := exploreDeeperRow.holds Tryd.pinned (OpenSpec.ofChange exploreDeeperWrong)

/- THE SECOND FORM. 'bulk': how many values and letters a reading holds, each counted each time it is reached (what is shared counts as often as it is met; a slice's spare places count too). A statement '..UptoSaid' is the law's where the arguments, and the package variables that the reading takes, are together of bulk at most 1048576: NARROWER than '..Said'. Prove '..Said' where nothing that the law and all that it calls make is longer than what came in: it says more and counts as full. Else prove '..UptoSaid'. A law counts once. -/
mutual
def uptoBulk {H : Type} : DataW H → Nat
  | .lit (.string bytes) => bytes.length + 1
  | .lit _ => 1
  | .nil => 1
  | .ptr d => uptoBulk d + 1
  | .slice elems spare => uptoBulkAll elems + uptoBulkAll spare + 1
  | .agg parts => uptoBulkAll parts + 1
  | .iface _ d => uptoBulk d + 1
  | .map entries => uptoBulkEntries entries + 1
  | .held _ => 1
def uptoBulkAll {H : Type} : List (DataW H) → Nat
  | [] => 0
  | d :: r => uptoBulk d + uptoBulkAll r
def uptoBulkEntries {H : Type} : List (Lit × DataW H) → Nat
  | [] => 0
  | x :: r => uptoBulkEntry x + uptoBulkEntries r
def uptoBulkEntry {H : Type} : Lit × DataW H → Nat
  | (.string bytes, d) => bytes.length + uptoBulk d + 1
  | (_, d) => uptoBulk d + 1
 end
def uptoSmall : (H : Type) → List (DataW H) → Bool := fun _ ds => decide (uptoBulkAll ds ≤ 1048576)
def OpenSpec.upto (s : _root_.Go.ChangeSpec) : _root_.Go.OpenSpec := { _root_.Go.OpenSpec.ofChange s with cond := some uptoSmall }

/-- 'signallinglaw26.ExploreFinds', WHERE WHAT IT READS IS OF BULK AT MOST 1048576: true; the input reads as it did. -/
def exploreFindsUptoRow : OpenClaim := { program := "ytciilodpnepdbaadoor", sum := "c22fce8dd831740b86ea9ada6b50dd88b95d84bfec4c0d12f2046f231750a3a5", func := "signalling/signallinglaw26.ExploreFinds", spec := "exploreFinds", unfollowed := true, recurses := true, named := ["internal/strconv.uint64pow10", "math/bits.deBruijn32tab", "math/bits.deBruijn64tab"], loops := true, apart := false, laid := [("math/bits.deBruijn32tab", laid_math_bits_deBruijn32tab), ("math/bits.deBruijn64tab", laid_math_bits_deBruijn64tab), ("internal/strconv.uint64pow10", laid_internal_strconv_uint64pow10)], narrowed := true }
def ExploreFindsUptoSaid : Prop := exploreFindsUptoRow.holds Tryd.pinned (OpenSpec.upto exploreFindsSpec)

/-- 'signallinglaw26.ExploreCounts', WHERE WHAT IT READS IS OF BULK AT MOST 1048576: true; the input reads as it did. -/
def exploreCountsUptoRow : OpenClaim := { program := "ytciilodpnepdbaadoor", sum := "c22fce8dd831740b86ea9ada6b50dd88b95d84bfec4c0d12f2046f231750a3a5", func := "signalling/signallinglaw26.ExploreCounts", spec := "exploreCounts", unfollowed := true, recurses := true, named := ["internal/strconv.uint64pow10", "math/bits.deBruijn32tab", "math/bits.deBruijn64tab"], loops := true, apart := false, laid := [("math/bits.deBruijn32tab", laid_math_bits_deBruijn32tab), ("math/bits.deBruijn64tab", laid_math_bits_deBruijn64tab), ("internal/strconv.uint64pow10", laid_internal_strconv_uint64pow10)], narrowed := true }
def ExploreCountsUptoSaid : Prop := exploreCountsUptoRow.holds Tryd.pinned (OpenSpec.upto exploreCountsSpec)

/-- 'signallinglaw26.ExploreReplays', WHERE WHAT IT READS IS OF BULK AT MOST 1048576: true; the input reads as it did. -/
def exploreReplaysUptoRow : OpenClaim := { program := "ytciilodpnepdbaadoor", sum := "c22fce8dd831740b86ea9ada6b50dd88b95d84bfec4c0d12f2046f231750a3a5", func := "signalling/signallinglaw26.ExploreReplays", spec := "exploreReplays", unfollowed := true, recurses := true, named := ["internal/strconv.uint64pow10", "math/bits.deBruijn32tab", "math/bits.deBruijn64tab"], loops := true, apart := false, laid := [("math/bits.deBruijn32tab", laid_math_bits_deBruijn32tab), ("math/bits.deBruijn64tab", laid_math_bits_deBruijn64tab), ("internal/strconv.uint64pow10", laid_internal_strconv_uint64pow10)], narrowed := true }
def ExploreReplaysUptoSaid : Prop := exploreReplaysUptoRow.holds Tryd.pinned (OpenSpec.upto exploreReplaysSpec)

/-- 'signallinglaw26.ExploreShortest', WHERE WHAT IT READS IS OF BULK AT MOST 1048576: true; the input reads as it did. -/
def exploreShortestUptoRow : OpenClaim := { program := "ytciilodpnepdbaadoor", sum := "c22fce8dd831740b86ea9ada6b50dd88b95d84bfec4c0d12f2046f231750a3a5", func := "signalling/signallinglaw26.ExploreShortest", spec := "exploreShortest", unfollowed := true, recurses := true, named := ["internal/strconv.uint64pow10", "math/bits.deBruijn32tab", "math/bits.deBruijn64tab"], loops := true, apart := false, laid := [("math/bits.deBruijn32tab", laid_math_bits_deBruijn32tab), ("math/bits.deBruijn64tab", laid_math_bits_deBruijn64tab), ("internal/strconv.uint64pow10", laid_internal_strconv_uint64pow10)], narrowed := true }
def ExploreShortestUptoSaid : Prop := exploreShortestUptoRow.holds Tryd.pinned (OpenSpec.upto exploreShortestSpec)

/-- 'signallinglaw26.ExploreDeeper', WHERE WHAT IT READS IS OF BULK AT MOST 1048576: true; the input reads as it did. -/
def exploreDeeperUptoRow : OpenClaim := { program := "ytciilodpnepdbaadoor", sum := "c22fce8dd831740b86ea9ada6b50dd88b95d84bfec4c0d12f2046f231750a3a5", func := "signalling/signallinglaw26.ExploreDeeper", spec := "exploreDeeper", unfollowed := true, recurses := true, named := ["internal/strconv.uint64pow10", "math/bits.deBruijn32tab", "math/bits.deBruijn64tab"], loops := true, apart := false, laid := [("math/bits.deBruijn32tab", laid_math_bits_deBruijn32tab), ("math/bits.deBruijn64tab", laid_math_bits_deBruijn64tab), ("internal/strconv.uint64pow10", laid_internal_strconv_uint64pow10)], narrowed := true }
def ExploreDeeperUptoSaid : Prop := exploreDeeperUptoRow.holds Tryd.pinned (OpenSpec.upto exploreDeeperSpec)

end Rows
end Go.Proofs.YtciilodpnepdbaaDoor
