/-
  No cell of these rows narrows 'for every input' (looked for: loops, veiled, ifaces, maps, wideKeys, modest, calm, conditions, laid).
  DERIVED. THE GIVEN ROWS OF THIS SEAT. 12 by the template 'for every input the law returns true; each argument reads behind the call as it read before'; 0 by the template 'total and deterministic' (their statements: YtoipglmjnibdpaaTotals.lean).
  GIVEN WITH THE SEED: the statements are not yours to turn. If you find one false, say at which input.
  Laid BY PROGRAM, IN A SANDBOX (cutbox-rows.mjs): the forced cells as the released guide's own fill.sh prints them over the translation f8751fd5e50dcdfe… (all of the seat's roots in one cut). By AI agents, Wed Nov 11 2026. No macro, syntax, notation, axiom, sorry.
-/
import Derived.Test.YtoipglmjnibdpaaChecked
import GoSem.Claim
import GoSem.ClaimJoined
import GoSem.ClaimMapViews
import Derived.JoinedTies
import Derived.KernelRfl
namespace Go.Proofs.Ytoipglmjnibdpaa
/- THE CELL 'sum', in the pinned program and in every row, IS THE sha256 OF THE DUMP (.gsa) THAT YtoipglmjnibdpaaProg.lean LOADS. Nothing in Lean hashes anything: it is a label: what it is worth is what the hold of that sum in a sandbox is worth. -/
noncomputable def Try.pinned : Pinned := { name := "ytoipglmjnibdpaa", sum := "f8751fd5e50dcdfe8421b9c6ac2cd2c42700548746e78b8b77e7cce9fde19053", checked := Try.checked }
namespace Rows
def none {H : Type} : Left H := { results := [], args := [] }

/-- 'campanilelaw42.SeedNumbers': WHATEVER THE INPUT: true; the input reads as it did. -/
def seedNumbersSpec : ChangeSpec := { name := "seedNumbers", fn := fun _ => fun
  | [d1, d2] => { results := [.lit (.bool true)], args := [d1, d2] }
  | _ => none }
def seedNumbersRow : OpenClaim := { program := "ytoipglmjnibdpaa", sum := "f8751fd5e50dcdfe8421b9c6ac2cd2c42700548746e78b8b77e7cce9fde19053", func := "campanile/campanilelaw42.SeedNumbers", spec := "seedNumbers", apart := false }
def SeedNumbersSaid : Prop := seedNumbersRow.holds Try.pinned (OpenSpec.ofChange seedNumbersSpec)

/-- ITS FALSE NEIGHBOUR: 'it returns false'. Refute it at one input. -/
def seedNumbersWrong : ChangeSpec := { name := "seedNumbers", fn := fun _ => fun
  | [d1, d2] => { results := [.lit (.bool false)], args := [d1, d2] }
  | _ => none }
def SeedNumbersWrongFalsely : Prop := seedNumbersRow.holds Try.pinned (OpenSpec.ofChange seedNumbersWrong)

/-- 'campanilelaw37.BoundFrames': WHATEVER THE INPUT: true; the input reads as it did. -/
def boundFramesSpec : ChangeSpec := { name := "boundFrames", fn := fun _ => fun
  | [d1, d2] => { results := [.lit (.bool true)], args := [d1, d2] }
  | _ => none }
def boundFramesRow : OpenClaim := { program := "ytoipglmjnibdpaa", sum := "f8751fd5e50dcdfe8421b9c6ac2cd2c42700548746e78b8b77e7cce9fde19053", func := "campanile/campanilelaw37.BoundFrames", spec := "boundFrames", apart := false }
def BoundFramesSaid : Prop := boundFramesRow.holds Try.pinned (OpenSpec.ofChange boundFramesSpec)

/-- ITS FALSE NEIGHBOUR: 'it returns false'. Refute it at one input. -/
def boundFramesWrong : ChangeSpec := { name := "boundFrames", fn := fun _ => fun
  | [d1, d2] => { results := [.lit (.bool false)], args := [d1, d2] }
  | _ => none }
def BoundFramesWrongFalsely : Prop := boundFramesRow.holds Try.pinned (OpenSpec.ofChange boundFramesWrong)

/-- 'campanilelaw35.CompareMarks': WHATEVER THE INPUT: true; the input reads as it did. -/
def compareMarksSpec : ChangeSpec := { name := "compareMarks", fn := fun _ => fun
  | [d1, d2, d3] => { results := [.lit (.bool true)], args := [d1, d2, d3] }
  | _ => none }
def compareMarksRow : OpenClaim := { program := "ytoipglmjnibdpaa", sum := "f8751fd5e50dcdfe8421b9c6ac2cd2c42700548746e78b8b77e7cce9fde19053", func := "campanile/campanilelaw35.CompareMarks", spec := "compareMarks", unfollowed := true, recurses := true, apart := false }
def CompareMarksSaid : Prop := compareMarksRow.holds Try.pinned (OpenSpec.ofChange compareMarksSpec)

/-- ITS FALSE NEIGHBOUR: 'it returns false'. Refute it at one input. -/
def compareMarksWrong : ChangeSpec := { name := "compareMarks", fn := fun _ => fun
  | [d1, d2, d3] => { results := [.lit (.bool false)], args := [d1, d2, d3] }
  | _ => none }
def CompareMarksWrongFalsely : Prop := compareMarksRow.holds Try.pinned (OpenSpec.ofChange compareMarksWrong)

/-- 'campanilelaw42.SeedTables': WHATEVER THE INPUT: true; the input reads as it did. -/
def seedTablesSpec : ChangeSpec := { name := "seedTables", fn := fun _ => fun
  | [d1, d2] => { results := [.lit (.bool true)], args := [d1, d2] }
  | _ => none }
def seedTablesRow : OpenClaim := { program := "ytoipglmjnibdpaa", sum := "f8751fd5e50dcdfe8421b9c6ac2cd2c42700548746e78b8b77e7cce9fde19053", func := "campanile/campanilelaw42.SeedTables", spec := "seedTables", apart := false }
def SeedTablesSaid : Prop := seedTablesRow.holds Try.pinned (OpenSpec.ofChange seedTablesSpec)

/-- ITS FALSE NEIGHBOUR: 'it returns false'. Refute it at one input. -/
def seedTablesWrong : ChangeSpec := { name := "seedTables", fn := fun _ => fun
  | [d1, d2] => { results := [.lit (.bool false)], args := [d1, d2] }
  | _ => none }
def SeedTablesWrongFalsely : Prop := seedTablesRow.holds Try.pinned (OpenSpec.ofChange seedTablesWrong)

/-- 'campanilelaw26.QuotaHolds': WHATEVER THE INPUT: true; the input reads as it did. -/
def quotaHoldsSpec : ChangeSpec := { name := "quotaHolds", fn := fun _ => fun
  | [d1, d2, d3] => { results := [.lit (.bool true)], args := [d1, d2, d3] }
  | _ => none }
def quotaHoldsRow : OpenClaim := { program := "ytoipglmjnibdpaa", sum := "f8751fd5e50dcdfe8421b9c6ac2cd2c42700548746e78b8b77e7cce9fde19053", func := "campanile/campanilelaw26.QuotaHolds", spec := "quotaHolds", apart := false }
def QuotaHoldsSaid : Prop := quotaHoldsRow.holds Try.pinned (OpenSpec.ofChange quotaHoldsSpec)

/-- ITS FALSE NEIGHBOUR: 'it returns false'. Refute it at one input. -/
def quotaHoldsWrong : ChangeSpec := { name := "quotaHolds", fn := fun _ => fun
  | [d1, d2, d3] => { results := [.lit (.bool false)], args := [d1, d2, d3] }
  | _ => none }
def QuotaHoldsWrongFalsely : Prop := quotaHoldsRow.holds Try.pinned (OpenSpec.ofChange quotaHoldsWrong)

/-- 'campanilelaw26.QuotaApart': WHATEVER THE INPUT: true; the input reads as it did. -/
def quotaApartSpec : ChangeSpec := { name := "quotaApart", fn := fun _ => fun
  | [d1, d2, d3, d4] => { results := [.lit (.bool true)], args := [d1, d2, d3, d4] }
  | _ => none }
def quotaApartRow : OpenClaim := { program := "ytoipglmjnibdpaa", sum := "f8751fd5e50dcdfe8421b9c6ac2cd2c42700548746e78b8b77e7cce9fde19053", func := "campanile/campanilelaw26.QuotaApart", spec := "quotaApart", apart := false }
def QuotaApartSaid : Prop := quotaApartRow.holds Try.pinned (OpenSpec.ofChange quotaApartSpec)

/-- ITS FALSE NEIGHBOUR: 'it returns false'. Refute it at one input. -/
def quotaApartWrong : ChangeSpec := { name := "quotaApart", fn := fun _ => fun
  | [d1, d2, d3, d4] => { results := [.lit (.bool false)], args := [d1, d2, d3, d4] }
  | _ => none }
def QuotaApartWrongFalsely : Prop := quotaApartRow.holds Try.pinned (OpenSpec.ofChange quotaApartWrong)

/-- 'campanilelaw26.QuotaPlays': WHATEVER THE INPUT: true; the input reads as it did. -/
def quotaPlaysSpec : ChangeSpec := { name := "quotaPlays", fn := fun _ => fun
  | [d1, d2, d3] => { results := [.lit (.bool true)], args := [d1, d2, d3] }
  | _ => none }
def quotaPlaysRow : OpenClaim := { program := "ytoipglmjnibdpaa", sum := "f8751fd5e50dcdfe8421b9c6ac2cd2c42700548746e78b8b77e7cce9fde19053", func := "campanile/campanilelaw26.QuotaPlays", spec := "quotaPlays", apart := false }
def QuotaPlaysSaid : Prop := quotaPlaysRow.holds Try.pinned (OpenSpec.ofChange quotaPlaysSpec)

/-- ITS FALSE NEIGHBOUR: 'it returns false'. Refute it at one input. -/
def quotaPlaysWrong : ChangeSpec := { name := "quotaPlays", fn := fun _ => fun
  | [d1, d2, d3] => { results := [.lit (.bool false)], args := [d1, d2, d3] }
  | _ => none }
def QuotaPlaysWrongFalsely : Prop := quotaPlaysRow.holds Try.pinned (OpenSpec.ofChange quotaPlaysWrong)

/-- 'campanilelaw26.QuotaForks': WHATEVER THE INPUT: true; the input reads as it did. -/
def quotaForksSpec : ChangeSpec := { name := "quotaForks", fn := fun _ => fun
  | [d1, d2, d3] => { results := [.lit (.bool true)], args := [d1, d2, d3] }
  | _ => none }
def quotaForksRow : OpenClaim := { program := "ytoipglmjnibdpaa", sum := "f8751fd5e50dcdfe8421b9c6ac2cd2c42700548746e78b8b77e7cce9fde19053", func := "campanile/campanilelaw26.QuotaForks", spec := "quotaForks", apart := false }
def QuotaForksSaid : Prop := quotaForksRow.holds Try.pinned (OpenSpec.ofChange quotaForksSpec)

/-- ITS FALSE NEIGHBOUR: 'it returns false'. Refute it at one input. -/
def quotaForksWrong : ChangeSpec := { name := "quotaForks", fn := fun _ => fun
  | [d1, d2, d3] => { results := [.lit (.bool false)], args := [d1, d2, d3] }
  | _ => none }
def QuotaForksWrongFalsely : Prop := quotaForksRow.holds Try.pinned (OpenSpec.ofChange quotaForksWrong)

/-- 'campanilelaw45.DeltaChanges': WHATEVER THE INPUT: true; the input reads as it did. -/
def deltaChangesSpec : ChangeSpec := { name := "deltaChanges", fn := fun _ => fun
  | [d1, d2] => { results := [.lit (.bool true)], args := [d1, d2] }
  | _ => none }
def deltaChangesRow : OpenClaim := { program := "ytoipglmjnibdpaa", sum := "f8751fd5e50dcdfe8421b9c6ac2cd2c42700548746e78b8b77e7cce9fde19053", func := "campanile/campanilelaw45.DeltaChanges", spec := "deltaChanges", apart := false }
def DeltaChangesSaid : Prop := deltaChangesRow.holds Try.pinned (OpenSpec.ofChange deltaChangesSpec)

/-- ITS FALSE NEIGHBOUR: 'it returns false'. Refute it at one input. -/
def deltaChangesWrong : ChangeSpec := { name := "deltaChanges", fn := fun _ => fun
  | [d1, d2] => { results := [.lit (.bool false)], args := [d1, d2] }
  | _ => none }
def DeltaChangesWrongFalsely : Prop := deltaChangesRow.holds Try.pinned (OpenSpec.ofChange deltaChangesWrong)

/-- 'campanilelaw45.DeltaApplies': WHATEVER THE INPUT: true; the input reads as it did. -/
def deltaAppliesSpec : ChangeSpec := { name := "deltaApplies", fn := fun _ => fun
  | [d1, d2] => { results := [.lit (.bool true)], args := [d1, d2] }
  | _ => none }
def deltaAppliesRow : OpenClaim := { program := "ytoipglmjnibdpaa", sum := "f8751fd5e50dcdfe8421b9c6ac2cd2c42700548746e78b8b77e7cce9fde19053", func := "campanile/campanilelaw45.DeltaApplies", spec := "deltaApplies", apart := false }
def DeltaAppliesSaid : Prop := deltaAppliesRow.holds Try.pinned (OpenSpec.ofChange deltaAppliesSpec)

/-- ITS FALSE NEIGHBOUR: 'it returns false'. Refute it at one input. -/
def deltaAppliesWrong : ChangeSpec := { name := "deltaApplies", fn := fun _ => fun
  | [d1, d2] => { results := [.lit (.bool false)], args := [d1, d2] }
  | _ => none }
def DeltaAppliesWrongFalsely : Prop := deltaAppliesRow.holds Try.pinned (OpenSpec.ofChange deltaAppliesWrong)

/-- 'campanilelaw45.DeltaUnpacks': WHATEVER THE INPUT: true; the input reads as it did. -/
def deltaUnpacksSpec : ChangeSpec := { name := "deltaUnpacks", fn := fun _ => fun
  | [d] => { results := [.lit (.bool true)], args := [d] }
  | _ => none }
def deltaUnpacksRow : OpenClaim := { program := "ytoipglmjnibdpaa", sum := "f8751fd5e50dcdfe8421b9c6ac2cd2c42700548746e78b8b77e7cce9fde19053", func := "campanile/campanilelaw45.DeltaUnpacks", spec := "deltaUnpacks", apart := false }
def DeltaUnpacksSaid : Prop := deltaUnpacksRow.holds Try.pinned (OpenSpec.ofChange deltaUnpacksSpec)

/-- ITS FALSE NEIGHBOUR: 'it returns false'. Refute it at one input. -/
def deltaUnpacksWrong : ChangeSpec := { name := "deltaUnpacks", fn := fun _ => fun
  | [d] => { results := [.lit (.bool false)], args := [d] }
  | _ => none }
def DeltaUnpacksWrongFalsely : Prop := deltaUnpacksRow.holds Try.pinned (OpenSpec.ofChange deltaUnpacksWrong)

/-- 'campanilelaw45.DeltaPacks': WHATEVER THE INPUT: true; the input reads as it did. -/
def deltaPacksSpec : ChangeSpec := { name := "deltaPacks", fn := fun _ => fun
  | [d] => { results := [.lit (.bool true)], args := [d] }
  | _ => none }
def deltaPacksRow : OpenClaim := { program := "ytoipglmjnibdpaa", sum := "f8751fd5e50dcdfe8421b9c6ac2cd2c42700548746e78b8b77e7cce9fde19053", func := "campanile/campanilelaw45.DeltaPacks", spec := "deltaPacks", apart := false }
def DeltaPacksSaid : Prop := deltaPacksRow.holds Try.pinned (OpenSpec.ofChange deltaPacksSpec)

/-- ITS FALSE NEIGHBOUR: 'it returns false'. Refute it at one input. -/
def deltaPacksWrong : ChangeSpec := { name := "deltaPacks", fn := fun _ => fun
  | [d] => { results := [.lit (.bool false)], args := [d] }
  | _ => none }
def DeltaPacksWrongFalsely : Prop := deltaPacksRow.holds Try.pinned (OpenSpec.ofChange deltaPacksWrong)

/- THE SECOND FORM. 'bulk': how many values and letters a reading holds, each counted each time it is reached (what is shared counts as often as it is met; a slice's spare places count too). A statement '..UptoSaid' is the law's where the arguments, and the package variables that the reading takes, are together of bulk at most 1048576: NARROWER than '..Said'. Prove '..Said' where nothing that the law and all that it calls make is longer than what came in: it says more and counts as full. Else prove '..UptoSaid'. A law counts once. -/
mutual
def uptoBulk {H : Type} : DataW H → Nat
  | .lit (.string bytes) => bytes.length + 1
  | .lit _ => 1
  | .nil => 1
  | .ptr d => uptoBulk d + 1
  | .slice elems spare => uptoBulkAll elems + uptoBulkAll spare + 1
  | .agg parts => uptoBulkAll parts + 1
  | .iface _ d => uptoBulk d + 1
  | .map entries => uptoBulkEntries entries + 1
  | .held _ => 1
def uptoBulkAll {H : Type} : List (DataW H) → Nat
  | [] => 0
  | d :: r => uptoBulk d + uptoBulkAll r
def uptoBulkEntries {H : Type} : List (Lit × DataW H) → Nat
  | [] => 0
  | x :: r => uptoBulkEntry x + uptoBulkEntries r
def uptoBulkEntry {H : Type} : Lit × DataW H → Nat
  | (.string bytes, d) => bytes.length + uptoBulk d + 1
  | (_, d) => uptoBulk d + 1
 end
def uptoSmall : (H : Type) → List (DataW H) → Bool := fun _ ds => decide (uptoBulkAll ds ≤ 1048576)
def OpenSpec.upto (s : _root_.Go.ChangeSpec) : _root_.Go.OpenSpec := { _root_.Go.OpenSpec.ofChange s with cond := some uptoSmall }

/-- 'campanilelaw42.SeedNumbers', WHERE WHAT IT READS IS OF BULK AT MOST 1048576: true; the input reads as it did. -/
def seedNumbersUptoRow : OpenClaim := { program := "ytoipglmjnibdpaa", sum := "f8751fd5e50dcdfe8421b9c6ac2cd2c42700548746e78b8b77e7cce9fde19053", func := "campanile/campanilelaw42.SeedNumbers", spec := "seedNumbers", apart := false, narrowed := true }
def SeedNumbersUptoSaid : Prop := seedNumbersUptoRow.holds Try.pinned (OpenSpec.upto seedNumbersSpec)

/-- 'campanilelaw37.BoundFrames', WHERE WHAT IT READS IS OF BULK AT MOST 1048576: true; the input reads as it did. -/
def boundFramesUptoRow : OpenClaim := { program := "ytoipglmjnibdpaa", sum := "f8751fd5e50dcdfe8421b9c6ac2cd2c42700548746e78b8b77e7cce9fde19053", func := "campanile/campanilelaw37.BoundFrames", spec := "boundFrames", apart := false, narrowed := true }
def BoundFramesUptoSaid : Prop := boundFramesUptoRow.holds Try.pinned (OpenSpec.upto boundFramesSpec)

/-- 'campanilelaw35.CompareMarks', WHERE WHAT IT READS IS OF BULK AT MOST 1048576: true; the input reads as it did. -/
def compareMarksUptoRow : OpenClaim := { program := "ytoipglmjnibdpaa", sum := "f8751fd5e50dcdfe8421b9c6ac2cd2c42700548746e78b8b77e7cce9fde19053", func := "campanile/campanilelaw35.CompareMarks", spec := "compareMarks", unfollowed := true, recurses := true, apart := false, narrowed := true }
def CompareMarksUptoSaid : Prop := compareMarksUptoRow.holds Try.pinned (OpenSpec.upto compareMarksSpec)

/-- 'campanilelaw42.SeedTables', WHERE WHAT IT READS IS OF BULK AT MOST 1048576: true; the input reads as it did. -/
def seedTablesUptoRow : OpenClaim := { program := "ytoipglmjnibdpaa", sum := "f8751fd5e50dcdfe8421b9c6ac2cd2c42700548746e78b8b77e7cce9fde19053", func := "campanile/campanilelaw42.SeedTables", spec := "seedTables", apart := false, narrowed := true }
def SeedTablesUptoSaid : Prop := seedTablesUptoRow.holds Try.pinned (OpenSpec.upto seedTablesSpec)

/-- 'campanilelaw26.QuotaHolds', WHERE WHAT IT READS IS OF BULK AT MOST 1048576: true; the input reads as it did. -/
def quotaHoldsUptoRow : OpenClaim := { program := "ytoipglmjnibdpaa", sum := "f8751fd5e50dcdfe8421b9c6ac2cd2c42700548746e78b8b77e7cce9fde19053", func := "campanile/campanilelaw26.QuotaHolds", spec := "quotaHolds", apart := false, narrowed := true }
def QuotaHoldsUptoSaid : Prop := quotaHoldsUptoRow.holds Try.pinned (OpenSpec.upto quotaHoldsSpec)

/-- 'campanilelaw26.QuotaApart', WHERE WHAT IT READS IS OF BULK AT MOST 1048576: true; the input reads as it did. -/
def quotaApartUptoRow : OpenClaim := { program := "ytoipglmjnibdpaa", sum := "f8751fd5e50dcdfe8421b9c6ac2cd2c42700548746e78b8b77e7cce9fde19053", func := "campanile/campanilelaw26.QuotaApart", spec := "quotaApart", apart := false, narrowed := true }
def QuotaApartUptoSaid : Prop := quotaApartUptoRow.holds Try.pinned (OpenSpec.upto quotaApartSpec)

/-- 'campanilelaw26.QuotaPlays', WHERE WHAT IT READS IS OF BULK AT MOST 1048576: true; the input reads as it did. -/
def quotaPlaysUptoRow : OpenClaim := { program := "ytoipglmjnibdpaa", sum := "f8751fd5e50dcdfe8421b9c6ac2cd2c42700548746e78b8b77e7cce9fde19053", func := "campanile/campanilelaw26.QuotaPlays", spec := "quotaPlays", apart := false, narrowed := true }
def QuotaPlaysUptoSaid : Prop := quotaPlaysUptoRow.holds Try.pinned (OpenSpec.upto quotaPlaysSpec)

/-- 'campanilelaw26.QuotaForks', WHERE WHAT IT READS IS OF BULK AT MOST 1048576: true; the input reads as it did. -/
def quotaForksUptoRow : OpenClaim := { program := "ytoipglmjnibdpaa", sum := "f8751fd5e50dcdfe8421b9c6ac2cd2c42700548746e78b8b77e7cce9fde19053", func := "campanile/campanilelaw26.QuotaForks", spec := "quotaForks", apart := false, narrowed := true }
def QuotaForksUptoSaid : Prop := quotaForksUptoRow.holds Try.pinned (OpenSpec.upto quotaForksSpec)

/-- 'campanilelaw45.DeltaChanges', WHERE WHAT IT READS IS OF BULK AT MOST 1048576: true; the input reads as it did. -/
def deltaChangesUptoRow : OpenClaim := { program := "ytoipglmjnibdpaa", sum := "f8751fd5e50dcdfe8421b9c6ac2cd2c42700548746e78b8b77e7cce9fde19053", func := "campanile/campanilelaw45.DeltaChanges", spec := "deltaChanges", apart := false, narrowed := true }
def DeltaChangesUptoSaid : Prop := deltaChangesUptoRow.holds Try.pinned (OpenSpec.upto deltaChangesSpec)

/-- 'campanilelaw45.DeltaApplies', WHERE WHAT IT READS IS OF BULK AT MOST 1048576: true; the input reads as it did. -/
def deltaAppliesUptoRow : OpenClaim := { program := "ytoipglmjnibdpaa", sum := "f8751fd5e50dcdfe8421b9c6ac2cd2c42700548746e78b8b77e7cce9fde19053", func := "campanile/campanilelaw45.DeltaApplies", spec := "deltaApplies", apart := false, narrowed := true }
def DeltaAppliesUptoSaid : Prop := deltaAppliesUptoRow.holds Try.pinned (OpenSpec.upto deltaAppliesSpec)

/-- 'campanilelaw45.DeltaUnpacks', WHERE WHAT IT READS IS OF BULK AT MOST 1048576: true; the input reads as it did. -/
def deltaUnpacksUptoRow : OpenClaim := { program := "ytoipglmjnibdpaa", sum := "f8751fd5e50dcdfe8421b9c6ac2cd2c42700548746e78b8b77e7cce9fde19053", func := "campanile/campanilelaw45.DeltaUnpacks", spec := "deltaUnpacks", apart := false, narrowed := true }
def DeltaUnpacksUptoSaid : Prop := deltaUnpacksUptoRow.holds Try.pinned (OpenSpec.upto deltaUnpacksSpec)

/-- 'campanilelaw45.DeltaPacks', WHERE WHAT IT READS IS OF BULK AT MOST 1048576: true; the input reads as it did. -/
def deltaPacksUptoRow : OpenClaim := { program := "ytoipglmjnibdpaa", sum := "f8751fd5e50dcdfe8421b9c6ac2cd2c42700548746e78b8b77e7cce9fde19053", func := "campanile/campanilelaw45.DeltaPacks", spec := "deltaPacks", apart := false, narrowed := true }
def DeltaPacksUptoSaid : Prop := deltaPacksUptoRow.holds Try.pinned (OpenSpec.upto deltaPacksSpec)

end Rows
end Go.Proofs.Ytoipglmjnibdpaa
