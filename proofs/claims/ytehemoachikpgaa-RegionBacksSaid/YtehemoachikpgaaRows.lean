/-
  No cell of these rows narrows 'for every input' (looked for: loops, veiled, ifaces, maps, wideKeys, modest, calm, conditions, laid).
  DERIVED. THE GIVEN ROWS OF THIS SEAT. 10 by the template 'for every input the law returns true; each argument reads behind the call as it read before'; 0 by the template 'total and deterministic' (their statements: YtehemoachikpgaaTotals.lean).
  GIVEN WITH THE SEED: the statements are not yours to turn. If you find one false, say at which input.
  Laid BY PROGRAM, IN A SANDBOX (cutbox-rows.mjs): the forced cells as the released guide's own fill.sh prints them over the translation 5e81bc42729f178b… (all of the seat's roots in one cut). By AI agents, Wed Nov 11 2026. No macro, syntax, notation, axiom, sorry.
-/
import Derived.Test.YtehemoachikpgaaChecked
import GoSem.Claim
import GoSem.ClaimJoined
import GoSem.ClaimMapViews
import Derived.JoinedTies
import Derived.KernelRfl
namespace Go.Proofs.Ytehemoachikpgaa
/- THE CELL 'sum', in the pinned program and in every row, IS THE sha256 OF THE DUMP (.gsa) THAT YtehemoachikpgaaProg.lean LOADS. Nothing in Lean hashes anything: it is a label: what it is worth is what the hold of that sum in a sandbox is worth. -/
noncomputable def Try.pinned : Pinned := { name := "ytehemoachikpgaa", sum := "5e81bc42729f178b00bce6d7892b68cc90b3bde76b2f81d20fa737d0763c9d19", checked := Try.checked }
namespace Rows
def none {H : Type} : Left H := { results := [], args := [] }

/-- 'campanilelaw05.RegionNil': WHATEVER THE INPUT: true; the input reads as it did. -/
def regionNilSpec : ChangeSpec := { name := "regionNil", fn := fun _ => fun
  | [d1, d2, d3] => { results := [.lit (.bool true)], args := [d1, d2, d3] }
  | _ => none }
def regionNilRow : OpenClaim := { program := "ytehemoachikpgaa", sum := "5e81bc42729f178b00bce6d7892b68cc90b3bde76b2f81d20fa737d0763c9d19", func := "campanile/campanilelaw05.RegionNil", spec := "regionNil", unfollowed := true, recurses := true, apart := false }
def RegionNilSaid : Prop := regionNilRow.holds Try.pinned (OpenSpec.ofChange regionNilSpec)

/-- ITS FALSE NEIGHBOUR: 'it returns false'. Refute it at one input. -/
def regionNilWrong : ChangeSpec := { name := "regionNil", fn := fun _ => fun
  | [d1, d2, d3] => { results := [.lit (.bool false)], args := [d1, d2, d3] }
  | _ => none }
def RegionNilWrongFalsely : Prop := regionNilRow.holds Try.pinned (OpenSpec.ofChange regionNilWrong)

/-- 'campanilelaw05.RegionRows': WHATEVER THE INPUT: true; the input reads as it did. -/
def regionRowsSpec : ChangeSpec := { name := "regionRows", fn := fun _ => fun
  | [d1, d2] => { results := [.lit (.bool true)], args := [d1, d2] }
  | _ => none }
def regionRowsRow : OpenClaim := { program := "ytehemoachikpgaa", sum := "5e81bc42729f178b00bce6d7892b68cc90b3bde76b2f81d20fa737d0763c9d19", func := "campanile/campanilelaw05.RegionRows", spec := "regionRows", unfollowed := true, recurses := true, apart := false }
def RegionRowsSaid : Prop := regionRowsRow.holds Try.pinned (OpenSpec.ofChange regionRowsSpec)

/-- ITS FALSE NEIGHBOUR: 'it returns false'. Refute it at one input. -/
def regionRowsWrong : ChangeSpec := { name := "regionRows", fn := fun _ => fun
  | [d1, d2] => { results := [.lit (.bool false)], args := [d1, d2] }
  | _ => none }
def RegionRowsWrongFalsely : Prop := regionRowsRow.holds Try.pinned (OpenSpec.ofChange regionRowsWrong)

/-- 'campanilelaw05.RegionMaps': WHATEVER THE INPUT: true; the input reads as it did. -/
def regionMapsSpec : ChangeSpec := { name := "regionMaps", fn := fun _ => fun
  | [d1, d2, d3, d4] => { results := [.lit (.bool true)], args := [d1, d2, d3, d4] }
  | _ => none }
def regionMapsRow : OpenClaim := { program := "ytehemoachikpgaa", sum := "5e81bc42729f178b00bce6d7892b68cc90b3bde76b2f81d20fa737d0763c9d19", func := "campanile/campanilelaw05.RegionMaps", spec := "regionMaps", unfollowed := true, recurses := true, apart := false }
def RegionMapsSaid : Prop := regionMapsRow.holds Try.pinned (OpenSpec.ofChange regionMapsSpec)

/-- ITS FALSE NEIGHBOUR: 'it returns false'. Refute it at one input. -/
def regionMapsWrong : ChangeSpec := { name := "regionMaps", fn := fun _ => fun
  | [d1, d2, d3, d4] => { results := [.lit (.bool false)], args := [d1, d2, d3, d4] }
  | _ => none }
def RegionMapsWrongFalsely : Prop := regionMapsRow.holds Try.pinned (OpenSpec.ofChange regionMapsWrong)

/-- 'campanilelaw05.RegionBacks': WHATEVER THE INPUT: true; the input reads as it did. -/
def regionBacksSpec : ChangeSpec := { name := "regionBacks", fn := fun _ => fun
  | [d1, d2] => { results := [.lit (.bool true)], args := [d1, d2] }
  | _ => none }
def regionBacksRow : OpenClaim := { program := "ytehemoachikpgaa", sum := "5e81bc42729f178b00bce6d7892b68cc90b3bde76b2f81d20fa737d0763c9d19", func := "campanile/campanilelaw05.RegionBacks", spec := "regionBacks", unfollowed := true, recurses := true, apart := false }
def RegionBacksSaid : Prop := regionBacksRow.holds Try.pinned (OpenSpec.ofChange regionBacksSpec)

/-- ITS FALSE NEIGHBOUR: 'it returns false'. Refute it at one input. -/
def regionBacksWrong : ChangeSpec := { name := "regionBacks", fn := fun _ => fun
  | [d1, d2] => { results := [.lit (.bool false)], args := [d1, d2] }
  | _ => none }
def RegionBacksWrongFalsely : Prop := regionBacksRow.holds Try.pinned (OpenSpec.ofChange regionBacksWrong)

/-- 'campanilelaw15.ConfMoves': WHATEVER THE INPUT: true; the input reads as it did. -/
def confMovesSpec : ChangeSpec := { name := "confMoves", fn := fun _ => fun
  | [d1, d2, d3] => { results := [.lit (.bool true)], args := [d1, d2, d3] }
  | _ => none }
def confMovesRow : OpenClaim := { program := "ytehemoachikpgaa", sum := "5e81bc42729f178b00bce6d7892b68cc90b3bde76b2f81d20fa737d0763c9d19", func := "campanile/campanilelaw15.ConfMoves", spec := "confMoves", unfollowed := true, recurses := true, apart := false }
def ConfMovesSaid : Prop := confMovesRow.holds Try.pinned (OpenSpec.ofChange confMovesSpec)

/-- ITS FALSE NEIGHBOUR: 'it returns false'. Refute it at one input. -/
def confMovesWrong : ChangeSpec := { name := "confMoves", fn := fun _ => fun
  | [d1, d2, d3] => { results := [.lit (.bool false)], args := [d1, d2, d3] }
  | _ => none }
def ConfMovesWrongFalsely : Prop := confMovesRow.holds Try.pinned (OpenSpec.ofChange confMovesWrong)

/-- 'campanilelaw15.ConfApart': WHATEVER THE INPUT: true; the input reads as it did. -/
def confApartSpec : ChangeSpec := { name := "confApart", fn := fun _ => fun
  | [d] => { results := [.lit (.bool true)], args := [d] }
  | _ => none }
def confApartRow : OpenClaim := { program := "ytehemoachikpgaa", sum := "5e81bc42729f178b00bce6d7892b68cc90b3bde76b2f81d20fa737d0763c9d19", func := "campanile/campanilelaw15.ConfApart", spec := "confApart", unfollowed := true, recurses := true, apart := false }
def ConfApartSaid : Prop := confApartRow.holds Try.pinned (OpenSpec.ofChange confApartSpec)

/-- ITS FALSE NEIGHBOUR: 'it returns false'. Refute it at one input. -/
def confApartWrong : ChangeSpec := { name := "confApart", fn := fun _ => fun
  | [d] => { results := [.lit (.bool false)], args := [d] }
  | _ => none }
def ConfApartWrongFalsely : Prop := confApartRow.holds Try.pinned (OpenSpec.ofChange confApartWrong)

/-- 'campanilelaw18.PlanRows': WHATEVER THE INPUT: true; the input reads as it did. -/
def planRowsSpec : ChangeSpec := { name := "planRows", fn := fun _ => fun
  | [d1, d2, d3] => { results := [.lit (.bool true)], args := [d1, d2, d3] }
  | _ => none }
def planRowsRow : OpenClaim := { program := "ytehemoachikpgaa", sum := "5e81bc42729f178b00bce6d7892b68cc90b3bde76b2f81d20fa737d0763c9d19", func := "campanile/campanilelaw18.PlanRows", spec := "planRows", unfollowed := true, recurses := true, apart := false }
def PlanRowsSaid : Prop := planRowsRow.holds Try.pinned (OpenSpec.ofChange planRowsSpec)

/-- ITS FALSE NEIGHBOUR: 'it returns false'. Refute it at one input. -/
def planRowsWrong : ChangeSpec := { name := "planRows", fn := fun _ => fun
  | [d1, d2, d3] => { results := [.lit (.bool false)], args := [d1, d2, d3] }
  | _ => none }
def PlanRowsWrongFalsely : Prop := planRowsRow.holds Try.pinned (OpenSpec.ofChange planRowsWrong)

/-- 'campanilelaw18.PlanTicks': WHATEVER THE INPUT: true; the input reads as it did. -/
def planTicksSpec : ChangeSpec := { name := "planTicks", fn := fun _ => fun
  | [d1, d2] => { results := [.lit (.bool true)], args := [d1, d2] }
  | _ => none }
def planTicksRow : OpenClaim := { program := "ytehemoachikpgaa", sum := "5e81bc42729f178b00bce6d7892b68cc90b3bde76b2f81d20fa737d0763c9d19", func := "campanile/campanilelaw18.PlanTicks", spec := "planTicks", unfollowed := true, recurses := true, apart := false }
def PlanTicksSaid : Prop := planTicksRow.holds Try.pinned (OpenSpec.ofChange planTicksSpec)

/-- ITS FALSE NEIGHBOUR: 'it returns false'. Refute it at one input. -/
def planTicksWrong : ChangeSpec := { name := "planTicks", fn := fun _ => fun
  | [d1, d2] => { results := [.lit (.bool false)], args := [d1, d2] }
  | _ => none }
def PlanTicksWrongFalsely : Prop := planTicksRow.holds Try.pinned (OpenSpec.ofChange planTicksWrong)

/-- 'campanilelaw18.PlanFrames': WHATEVER THE INPUT: true; the input reads as it did. -/
def planFramesSpec : ChangeSpec := { name := "planFrames", fn := fun _ => fun
  | [d1, d2] => { results := [.lit (.bool true)], args := [d1, d2] }
  | _ => none }
def planFramesRow : OpenClaim := { program := "ytehemoachikpgaa", sum := "5e81bc42729f178b00bce6d7892b68cc90b3bde76b2f81d20fa737d0763c9d19", func := "campanile/campanilelaw18.PlanFrames", spec := "planFrames", unfollowed := true, recurses := true, apart := false }
def PlanFramesSaid : Prop := planFramesRow.holds Try.pinned (OpenSpec.ofChange planFramesSpec)

/-- ITS FALSE NEIGHBOUR: 'it returns false'. Refute it at one input. -/
def planFramesWrong : ChangeSpec := { name := "planFrames", fn := fun _ => fun
  | [d1, d2] => { results := [.lit (.bool false)], args := [d1, d2] }
  | _ => none }
def PlanFramesWrongFalsely : Prop := planFramesRow.holds Try.pinned (OpenSpec.ofChange planFramesWrong)

/-- 'campanilelaw32.AloneRows': WHATEVER THE INPUT: true; the input reads as it did. -/
def aloneRowsSpec : ChangeSpec := { name := "aloneRows", fn := fun _ => fun
  | [d1, d2] => { results := [.lit (.bool true)], args := [d1, d2] }
  | _ => none }
def aloneRowsRow : OpenClaim := { program := "ytehemoachikpgaa", sum := "5e81bc42729f178b00bce6d7892b68cc90b3bde76b2f81d20fa737d0763c9d19", func := "campanile/campanilelaw32.AloneRows", spec := "aloneRows", unfollowed := true, recurses := true, apart := false }
def AloneRowsSaid : Prop := aloneRowsRow.holds Try.pinned (OpenSpec.ofChange aloneRowsSpec)

/-- ITS FALSE NEIGHBOUR: 'it returns false'. Refute it at one input. -/
def aloneRowsWrong : ChangeSpec := { name := "aloneRows", fn := fun _ => fun
  | [d1, d2] => { results := [.lit (.bool false)], args := [d1, d2] }
  | _ => none }
def AloneRowsWrongFalsely : Prop := aloneRowsRow.holds Try.pinned (OpenSpec.ofChange aloneRowsWrong)

/- THE SECOND FORM. 'bulk': how many values and letters a reading holds, each counted each time it is reached (what is shared counts as often as it is met; a slice's spare places count too). A statement '..UptoSaid' is the law's where the arguments, and the package variables that the reading takes, are together of bulk at most 1048576: NARROWER than '..Said'. Prove '..Said' where nothing that the law and all that it calls make is longer than what came in: it says more and counts as full. Else prove '..UptoSaid'. A law counts once. -/
mutual
def uptoBulk {H : Type} : DataW H → Nat
  | .lit (.string bytes) => bytes.length + 1
  | .lit _ => 1
  | .nil => 1
  | .ptr d => uptoBulk d + 1
  | .slice elems spare => uptoBulkAll elems + uptoBulkAll spare + 1
  | .agg parts => uptoBulkAll parts + 1
  | .iface _ d => uptoBulk d + 1
  | .map entries => uptoBulkEntries entries + 1
  | .held _ => 1
def uptoBulkAll {H : Type} : List (DataW H) → Nat
  | [] => 0
  | d :: r => uptoBulk d + uptoBulkAll r
def uptoBulkEntries {H : Type} : List (Lit × DataW H) → Nat
  | [] => 0
  | x :: r => uptoBulkEntry x + uptoBulkEntries r
def uptoBulkEntry {H : Type} : Lit × DataW H → Nat
  | (.string bytes, d) => bytes.length + uptoBulk d + 1
  | (_, d) => uptoBulk d + 1
 end
def uptoSmall : (H : Type) → List (DataW H) → Bool := fun _ ds => decide (uptoBulkAll ds ≤ 1048576)
def OpenSpec.upto (s : _root_.Go.ChangeSpec) : _root_.Go.OpenSpec := { _root_.Go.OpenSpec.ofChange s with cond := some uptoSmall }

/-- 'campanilelaw05.RegionNil', WHERE WHAT IT READS IS OF BULK AT MOST 1048576: true; the input reads as it did. -/
def regionNilUptoRow : OpenClaim := { program := "ytehemoachikpgaa", sum := "5e81bc42729f178b00bce6d7892b68cc90b3bde76b2f81d20fa737d0763c9d19", func := "campanile/campanilelaw05.RegionNil", spec := "regionNil", unfollowed := true, recurses := true, apart := false, narrowed := true }
def RegionNilUptoSaid : Prop := regionNilUptoRow.holds Try.pinned (OpenSpec.upto regionNilSpec)

/-- 'campanilelaw05.RegionRows', WHERE WHAT IT READS IS OF BULK AT MOST 1048576: true; the input reads as it did. -/
def regionRowsUptoRow : OpenClaim := { program := "ytehemoachikpgaa", sum := "5e81bc42729f178b00bce6d7892b68cc90b3bde76b2f81d20fa737d0763c9d19", func := "campanile/campanilelaw05.RegionRows", spec := "regionRows", unfollowed := true, recurses := true, apart := false, narrowed := true }
def RegionRowsUptoSaid : Prop := regionRowsUptoRow.holds Try.pinned (OpenSpec.upto regionRowsSpec)

/-- 'campanilelaw05.RegionMaps', WHERE WHAT IT READS IS OF BULK AT MOST 1048576: true; the input reads as it did. -/
def regionMapsUptoRow : OpenClaim := { program := "ytehemoachikpgaa", sum := "5e81bc42729f178b00bce6d7892b68cc90b3bde76b2f81d20fa737d0763c9d19", func := "campanile/campanilelaw05.RegionMaps", spec := "regionMaps", unfollowed := true, recurses := true, apart := false, narrowed := true }
def RegionMapsUptoSaid : Prop := regionMapsUptoRow.holds Try.pinned (OpenSpec.upto regionMapsSpec)

/-- 'campanilelaw05.RegionBacks', WHERE WHAT IT READS IS OF BULK AT MOST 1048576: true; the input reads as it did. -/
def regionBacksUptoRow : OpenClaim := { program := "ytehemoachikpgaa", sum := "5e81bc42729f178b00bce6d7892b68cc90b3bde76b2f81d20fa737d0763c9d19", func := "campanile/campanilelaw05.RegionBacks", spec := "regionBacks", unfollowed := true, recurses := true, apart := false, narrowed := true }
def RegionBacksUptoSaid : Prop := regionBacksUptoRow.holds Try.pinned (OpenSpec.upto regionBacksSpec)

/-- 'campanilelaw15.ConfMoves', WHERE WHAT IT READS IS OF BULK AT MOST 1048576: true; the input reads as it did. -/
def confMovesUptoRow : OpenClaim := { program := "ytehemoachikpgaa", sum := "5e81bc42729f178b00bce6d7892b68cc90b3bde76b2f81d20fa737d0763c9d19", func := "campanile/campanilelaw15.ConfMoves", spec := "confMoves", unfollowed := true, recurses := true, apart := false, narrowed := true }
def ConfMovesUptoSaid : Prop := confMovesUptoRow.holds Try.pinned (OpenSpec.upto confMovesSpec)

/-- 'campanilelaw15.ConfApart', WHERE WHAT IT READS IS OF BULK AT MOST 1048576: true; the input reads as it did. -/
def confApartUptoRow : OpenClaim := { program := "ytehemoachikpgaa", sum := "5e81bc42729f178b00bce6d7892b68cc90b3bde76b2f81d20fa737d0763c9d19", func := "campanile/campanilelaw15.ConfApart", spec := "confApart", unfollowed := true, recurses := true, apart := false, narrowed := true }
def ConfApartUptoSaid : Prop := confApartUptoRow.holds Try.pinned (OpenSpec.upto confApartSpec)

/-- 'campanilelaw18.PlanRows', WHERE WHAT IT READS IS OF BULK AT MOST 1048576: true; the input reads as it did. -/
def planRowsUptoRow : OpenClaim := { program := "ytehemoachikpgaa", sum := "5e81bc42729f178b00bce6d7892b68cc90b3bde76b2f81d20fa737d0763c9d19", func := "campanile/campanilelaw18.PlanRows", spec := "planRows", unfollowed := true, recurses := true, apart := false, narrowed := true }
def PlanRowsUptoSaid : Prop := planRowsUptoRow.holds Try.pinned (OpenSpec.upto planRowsSpec)

/-- 'campanilelaw18.PlanTicks', WHERE WHAT IT READS IS OF BULK AT MOST 1048576: true; the input reads as it did. -/
def planTicksUptoRow : OpenClaim := { program := "ytehemoachikpgaa", sum := "5e81bc42729f178b00bce6d7892b68cc90b3bde76b2f81d20fa737d0763c9d19", func := "campanile/campanilelaw18.PlanTicks", spec := "planTicks", unfollowed := true, recurses := true, apart := false, narrowed := true }
def PlanTicksUptoSaid : Prop := planTicksUptoRow.holds Try.pinned (OpenSpec.upto planTicksSpec)

/-- 'campanilelaw18.PlanFrames', WHERE WHAT IT READS IS OF BULK AT MOST 1048576: true; the input reads as it did. -/
def planFramesUptoRow : OpenClaim := { program := "ytehemoachikpgaa", sum := "5e81bc42729f178b00bce6d7892b68cc90b3bde76b2f81d20fa737d0763c9d19", func := "campanile/campanilelaw18.PlanFrames", spec := "planFrames", unfollowed := true, recurses := true, apart := false, narrowed := true }
def PlanFramesUptoSaid : Prop := planFramesUptoRow.holds Try.pinned (OpenSpec.upto planFramesSpec)

/-- 'campanilelaw32.AloneRows', WHERE WHAT IT READS IS OF BULK AT MOST 1048576: true; the input reads as it did. -/
def aloneRowsUptoRow : OpenClaim := { program := "ytehemoachikpgaa", sum := "5e81bc42729f178b00bce6d7892b68cc90b3bde76b2f81d20fa737d0763c9d19", func := "campanile/campanilelaw32.AloneRows", spec := "aloneRows", unfollowed := true, recurses := true, apart := false, narrowed := true }
def AloneRowsUptoSaid : Prop := aloneRowsUptoRow.holds Try.pinned (OpenSpec.upto aloneRowsSpec)

end Rows
end Go.Proofs.Ytehemoachikpgaa
