/-
  No cell of these rows narrows 'for every input' (looked for: loops, veiled, ifaces, maps, wideKeys, modest, calm, conditions, laid).
  DERIVED. THE GIVEN ROWS OF THIS SEAT. 2 by the template 'for every input the law returns true; each argument reads behind the call as it read before'; 0 by the template 'total and deterministic' (their statements: YtknoiemnpllapaaGreatTotals.lean).
  GIVEN WITH THE SEED: the statements are not yours to turn. If you find one false, say at which input.
  Laid BY PROGRAM, IN A SANDBOX (cutbox-rows.mjs): the forced cells as the released guide's own fill.sh prints them over the translation e5f353430419591d… (all of the seat's roots in one cut). By AI agents, Wed Nov 11 2026. No macro, syntax, notation, axiom, sorry.
-/
import Derived.Test.YtknoiemnpllapaaGreatChecked
import GoSem.Claim
import GoSem.ClaimJoined
import GoSem.ClaimMapViews
import Derived.JoinedTies
import Derived.KernelRfl
namespace Go.Proofs.YtknoiemnpllapaaGreat
/- THE CELL 'sum', in the pinned program and in every row, IS THE sha256 OF THE DUMP (.gsa) THAT YtknoiemnpllapaaGreatProg.lean LOADS. Nothing in Lean hashes anything: it is a label: what it is worth is what the hold of that sum in a sandbox is worth. -/
noncomputable def Tryz.pinned : Pinned := { name := "ytknoiemnpllapaagreat", sum := "e5f353430419591dd7bce3061d5851e4cd00e9a704e455508165af331282279d", checked := Tryz.checked }
namespace Rows
def none {H : Type} : Left H := { results := [], args := [] }

/-- 'campanilelaw38.AuditWild': WHATEVER THE INPUT: true; the input reads as it did. -/
def auditWildSpec : ChangeSpec := { name := "auditWild", fn := fun _ => fun
  | [d1, d2] => { results := [.lit (.bool true)], args := [d1, d2] }
  | _ => none }
def auditWildRow : OpenClaim := { program := "ytknoiemnpllapaagreat", sum := "e5f353430419591dd7bce3061d5851e4cd00e9a704e455508165af331282279d", func := "campanile/campanilelaw38.AuditWild", spec := "auditWild", unfollowed := true, recurses := true, apart := false }
def AuditWildSaid : Prop := auditWildRow.holds Tryz.pinned (OpenSpec.ofChange auditWildSpec)

/-- ITS FALSE NEIGHBOUR: 'it returns false'. Refute it at one input. -/
def auditWildWrong : ChangeSpec := { name := "auditWild", fn := fun _ => fun
  | [d1, d2] => { results := [.lit (.bool false)], args := [d1, d2] }
  | _ => none }
def AuditWildWrongFalsely : Prop := auditWildRow.holds Tryz.pinned (OpenSpec.ofChange auditWildWrong)

/-- 'campanilelaw38.AuditDue': WHATEVER THE INPUT: true; the input reads as it did. -/
def auditDueSpec : ChangeSpec := { name := "auditDue", fn := fun _ => fun
  | [d1, d2, d3] => { results := [.lit (.bool true)], args := [d1, d2, d3] }
  | _ => none }
def auditDueRow : OpenClaim := { program := "ytknoiemnpllapaagreat", sum := "e5f353430419591dd7bce3061d5851e4cd00e9a704e455508165af331282279d", func := "campanile/campanilelaw38.AuditDue", spec := "auditDue", unfollowed := true, recurses := true, apart := false }
def AuditDueSaid : Prop := auditDueRow.holds Tryz.pinned (OpenSpec.ofChange auditDueSpec)

/-- ITS FALSE NEIGHBOUR: 'it returns false'. Refute it at one input. -/
def auditDueWrong : ChangeSpec := { name := "auditDue", fn := fun _ => fun
  | [d1, d2, d3] => { results := [.lit (.bool false)], args := [d1, d2, d3] }
  | _ => none }
def AuditDueWrongFalsely : Prop := auditDueRow.holds Tryz.pinned (OpenSpec.ofChange auditDueWrong)

/- THE SECOND FORM. 'bulk': how many values and letters a reading holds, each counted each time it is reached (what is shared counts as often as it is met; a slice's spare places count too). A statement '..UptoSaid' is the law's where the arguments, and the package variables that the reading takes, are together of bulk at most 1048576: NARROWER than '..Said'. Prove '..Said' where nothing that the law and all that it calls make is longer than what came in: it says more and counts as full. Else prove '..UptoSaid'. A law counts once. -/
mutual
def uptoBulk {H : Type} : DataW H → Nat
  | .lit (.string bytes) => bytes.length + 1
  | .lit _ => 1
  | .nil => 1
  | .ptr d => uptoBulk d + 1
  | .slice elems spare => uptoBulkAll elems + uptoBulkAll spare + 1
  | .agg parts => uptoBulkAll parts + 1
  | .iface _ d => uptoBulk d + 1
  | .map entries => uptoBulkEntries entries + 1
  | .held _ => 1
def uptoBulkAll {H : Type} : List (DataW H) → Nat
  | [] => 0
  | d :: r => uptoBulk d + uptoBulkAll r
def uptoBulkEntries {H : Type} : List (Lit × DataW H) → Nat
  | [] => 0
  | x :: r => uptoBulkEntry x + uptoBulkEntries r
def uptoBulkEntry {H : Type} : Lit × DataW H → Nat
  | (.string bytes, d) => bytes.length + uptoBulk d + 1
  | (_, d) => uptoBulk d + 1
 end
def uptoSmall : (H : Type) → List (DataW H) → Bool := fun _ ds => decide (uptoBulkAll ds ≤ 1048576)
def OpenSpec.upto (s : _root_.Go.ChangeSpec) : _root_.Go.OpenSpec := { _root_.Go.OpenSpec.ofChange s with cond := some uptoSmall }

/-- 'campanilelaw38.AuditWild', WHERE WHAT IT READS IS OF BULK AT MOST 1048576: true; the input reads as it did. -/
def auditWildUptoRow : OpenClaim := { program := "ytknoiemnpllapaagreat", sum := "e5f353430419591dd7bce3061d5851e4cd00e9a704e455508165af331282279d", func := "campanile/campanilelaw38.AuditWild", spec := "auditWild", unfollowed := true, recurses := true, apart := false, narrowed := true }
def AuditWildUptoSaid : Prop := auditWildUptoRow.holds Tryz.pinned (OpenSpec.upto auditWildSpec)

/-- 'campanilelaw38.AuditDue', WHERE WHAT IT READS IS OF BULK AT MOST 1048576: true; the input reads as it did. -/
def auditDueUptoRow : OpenClaim := { program := "ytknoiemnpllapaagreat", sum := "e5f353430419591dd7bce3061d5851e4cd00e9a704e455508165af331282279d", func := "campanile/campanilelaw38.AuditDue", spec := "auditDue", unfollowed := true, recurses := true, apart := false, narrowed := true }
def AuditDueUptoSaid : Prop := auditDueUptoRow.holds Tryz.pinned (OpenSpec.upto auditDueSpec)

end Rows
end Go.Proofs.YtknoiemnpllapaaGreat
