/-
  NARROWER THAN 'FOR EVERY INPUT', by the rows' own cells (each row's printed sentence says how): AnchorNames: loops · AnchorChecks: loops · AnchorLimits: loops · AnchorExpands: loops · AnchorBounded: loops.
  DERIVED. THE GIVEN ROWS OF THIS SEAT. 6 by the template 'for every input the law returns true; each argument reads behind the call as it read before'; 0 by the template 'total and deterministic' (their statements: YtbfnmgiccbdglaaTotals.lean).
  GIVEN WITH THE SEED: the statements are not yours to turn. If you find one false, say at which input.
  Laid BY PROGRAM, IN A SANDBOX (cutbox-rows.mjs): the forced cells as the released guide's own fill.sh prints them over the translation ca536e8060acc49a… (all of the seat's roots in one cut). By AI agents, Wed Nov 11 2026. No macro, syntax, notation, axiom, sorry.
-/
import Derived.Test.YtbfnmgiccbdglaaChecked
import GoSem.Claim
import GoSem.ClaimJoined
import GoSem.ClaimMapViews
import Derived.JoinedTies
import Derived.KernelRfl
namespace Go.Proofs.Ytbfnmgiccbdglaa
/- THE CELL 'sum', in the pinned program and in every row, IS THE sha256 OF THE DUMP (.gsa) THAT YtbfnmgiccbdglaaProg.lean LOADS. Nothing in Lean hashes anything: it is a label: what it is worth is what the hold of that sum in a sandbox is worth. -/
noncomputable def Try.pinned : Pinned := { name := "ytbfnmgiccbdglaa", sum := "ca536e8060acc49aff147d37bba45ce3d95b46cf43ef6e19a7f18e41470aade2", checked := Try.checked }
namespace Rows
def none {H : Type} : Left H := { results := [], args := [] }

/-- 'datakitlaw22.AnchorNames': WHATEVER THE INPUT: true; the input reads as it did. -/
def anchorNamesSpec : ChangeSpec := { name := "anchorNames", fn := fun _ => fun
  | [d] => { results := [.lit (.bool true)], args := [d] }
  | _ => none }
def anchorNamesRow : OpenClaim := { program := "ytbfnmgiccbdglaa", sum := "ca536e8060acc49aff147d37bba45ce3d95b46cf43ef6e19a7f18e41470aade2", func := "datakit/datakitlaw22.AnchorNames", spec := "anchorNames", unfollowed := true, recurses := true, loops := true, apart := false }
def AnchorNamesSaid : Prop := anchorNamesRow.holds Try.pinned (OpenSpec.ofChange anchorNamesSpec)

/-- ITS FALSE NEIGHBOUR: 'it returns false'. Refute it at one input. -/
def anchorNamesWrong : ChangeSpec := { name := "anchorNames", fn := fun _ => fun
  | [d] => { results := [.lit (.bool false)], args := [d] }
  | _ => none }
def AnchorNamesWrongFalsely : Prop := anchorNamesRow.holds Try.pinned (OpenSpec.ofChange anchorNamesWrong)

/-- 'datakitlaw22.AnchorChecks': WHATEVER THE INPUT: true; the input reads as it did. -/
def anchorChecksSpec : ChangeSpec := { name := "anchorChecks", fn := fun _ => fun
  | [d1, d2] => { results := [.lit (.bool true)], args := [d1, d2] }
  | _ => none }
def anchorChecksRow : OpenClaim := { program := "ytbfnmgiccbdglaa", sum := "ca536e8060acc49aff147d37bba45ce3d95b46cf43ef6e19a7f18e41470aade2", func := "datakit/datakitlaw22.AnchorChecks", spec := "anchorChecks", unfollowed := true, recurses := true, loops := true, apart := false }
def AnchorChecksSaid : Prop := anchorChecksRow.holds Try.pinned (OpenSpec.ofChange anchorChecksSpec)

/-- ITS FALSE NEIGHBOUR: 'it returns false'. Refute it at one input. -/
def anchorChecksWrong : ChangeSpec := { name := "anchorChecks", fn := fun _ => fun
  | [d1, d2] => { results := [.lit (.bool false)], args := [d1, d2] }
  | _ => none }
def AnchorChecksWrongFalsely : Prop := anchorChecksRow.holds Try.pinned (OpenSpec.ofChange anchorChecksWrong)

/-- 'datakitlaw22.AnchorLimits': WHATEVER THE INPUT: true; the input reads as it did. -/
def anchorLimitsSpec : ChangeSpec := { name := "anchorLimits", fn := fun _ => fun
  | [d] => { results := [.lit (.bool true)], args := [d] }
  | _ => none }
def anchorLimitsRow : OpenClaim := { program := "ytbfnmgiccbdglaa", sum := "ca536e8060acc49aff147d37bba45ce3d95b46cf43ef6e19a7f18e41470aade2", func := "datakit/datakitlaw22.AnchorLimits", spec := "anchorLimits", unfollowed := true, recurses := true, loops := true, apart := false }
def AnchorLimitsSaid : Prop := anchorLimitsRow.holds Try.pinned (OpenSpec.ofChange anchorLimitsSpec)

/-- ITS FALSE NEIGHBOUR: 'it returns false'. Refute it at one input. -/
def anchorLimitsWrong : ChangeSpec := { name := "anchorLimits", fn := fun _ => fun
  | [d] => { results := [.lit (.bool false)], args := [d] }
  | _ => none }
def AnchorLimitsWrongFalsely : Prop := anchorLimitsRow.holds Try.pinned (OpenSpec.ofChange anchorLimitsWrong)

/-- 'datakitlaw22.AnchorWithin': WHATEVER THE INPUT: true; the input reads as it did. -/
def anchorWithinSpec : ChangeSpec := { name := "anchorWithin", fn := fun _ => fun
  | [d1, d2] => { results := [.lit (.bool true)], args := [d1, d2] }
  | _ => none }
def anchorWithinRow : OpenClaim := { program := "ytbfnmgiccbdglaa", sum := "ca536e8060acc49aff147d37bba45ce3d95b46cf43ef6e19a7f18e41470aade2", func := "datakit/datakitlaw22.AnchorWithin", spec := "anchorWithin", unfollowed := true, recurses := true, apart := false }
def AnchorWithinSaid : Prop := anchorWithinRow.holds Try.pinned (OpenSpec.ofChange anchorWithinSpec)

/-- ITS FALSE NEIGHBOUR: 'it returns false'. Refute it at one input. -/
def anchorWithinWrong : ChangeSpec := { name := "anchorWithin", fn := fun _ => fun
  | [d1, d2] => { results := [.lit (.bool false)], args := [d1, d2] }
  | _ => none }
def AnchorWithinWrongFalsely : Prop := anchorWithinRow.holds Try.pinned (OpenSpec.ofChange anchorWithinWrong)

/-- 'datakitlaw22.AnchorExpands': WHATEVER THE INPUT: true; the input reads as it did. -/
def anchorExpandsSpec : ChangeSpec := { name := "anchorExpands", fn := fun _ => fun
  | [d1, d2] => { results := [.lit (.bool true)], args := [d1, d2] }
  | _ => none }
def anchorExpandsRow : OpenClaim := { program := "ytbfnmgiccbdglaa", sum := "ca536e8060acc49aff147d37bba45ce3d95b46cf43ef6e19a7f18e41470aade2", func := "datakit/datakitlaw22.AnchorExpands", spec := "anchorExpands", unfollowed := true, recurses := true, loops := true, apart := false }
def AnchorExpandsSaid : Prop := anchorExpandsRow.holds Try.pinned (OpenSpec.ofChange anchorExpandsSpec)

/-- ITS FALSE NEIGHBOUR: 'it returns false'. Refute it at one input. -/
def anchorExpandsWrong : ChangeSpec := { name := "anchorExpands", fn := fun _ => fun
  | [d1, d2] => { results := [.lit (.bool false)], args := [d1, d2] }
  | _ => none }
def AnchorExpandsWrongFalsely : Prop := anchorExpandsRow.holds Try.pinned (OpenSpec.ofChange anchorExpandsWrong)

/-- 'datakitlaw22.AnchorBounded': WHATEVER THE INPUT: true; the input reads as it did. -/
def anchorBoundedSpec : ChangeSpec := { name := "anchorBounded", fn := fun _ => fun
  | [d1, d2] => { results := [.lit (.bool true)], args := [d1, d2] }
  | _ => none }
def anchorBoundedRow : OpenClaim := { program := "ytbfnmgiccbdglaa", sum := "ca536e8060acc49aff147d37bba45ce3d95b46cf43ef6e19a7f18e41470aade2", func := "datakit/datakitlaw22.AnchorBounded", spec := "anchorBounded", unfollowed := true, recurses := true, loops := true, apart := false }
def AnchorBoundedSaid : Prop := anchorBoundedRow.holds Try.pinned (OpenSpec.ofChange anchorBoundedSpec)

/-- ITS FALSE NEIGHBOUR: 'it returns false'. Refute it at one input. -/
def anchorBoundedWrong : ChangeSpec := { name := "anchorBounded", fn := fun _ => fun
  | [d1, d2] => { results := [.lit (.bool false)], args := [d1, d2] }
  | _ => none }
def AnchorBoundedWrongFalsely : Prop := anchorBoundedRow.holds Try.pinned (OpenSpec.ofChange anchorBoundedWrong)

/- THE SECOND FORM. 'bulk': how many values and letters a reading holds, each counted each time it is reached (what is shared counts as often as it is met; a slice's spare places count too). A statement '..UptoSaid' is the law's where the arguments, and the package variables that the reading takes, are together of bulk at most 1048576: NARROWER than '..Said'. Prove '..Said' where nothing that the law and all that it calls make is longer than what came in: it says more and counts as full. Else prove '..UptoSaid'. A law counts once. -/
mutual
def uptoBulk {H : Type} : DataW H → Nat
  | .lit (.string bytes) => bytes.length + 1
  | .lit _ => 1
  | .nil => 1
  | .ptr d => uptoBulk d + 1
  | .slice elems spare => uptoBulkAll elems + uptoBulkAll spare + 1
  | .agg parts => uptoBulkAll parts + 1
  | .iface _ d => uptoBulk d + 1
  | .map entries => uptoBulkEntries entries + 1
  | .held _ => 1
def uptoBulkAll {H : Type} : List (DataW H) → Nat
  | [] => 0
  | d :: r => uptoBulk d + uptoBulkAll r
def uptoBulkEntries {H : Type} : List (Lit × DataW H) → Nat
  | [] => 0
  | x :: r => uptoBulkEntry x + uptoBulkEntries r
def uptoBulkEntry {H : Type} : Lit × DataW H → Nat
  | (.string bytes, d) => bytes.length + uptoBulk d + 1
  | (_, d) => uptoBulk d + 1
 end
def uptoSmall : (H : Type) → List (DataW H) → Bool := fun _ ds => decide (uptoBulkAll ds ≤ 1048576)
def OpenSpec.upto (s : _root_.Go.ChangeSpec) : _root_.Go.OpenSpec := { _root_.Go.OpenSpec.ofChange s with cond := some uptoSmall }

/-- 'datakitlaw22.AnchorNames', WHERE WHAT IT READS IS OF BULK AT MOST 1048576: true; the input reads as it did. -/
def anchorNamesUptoRow : OpenClaim := { program := "ytbfnmgiccbdglaa", sum := "ca536e8060acc49aff147d37bba45ce3d95b46cf43ef6e19a7f18e41470aade2", func := "datakit/datakitlaw22.AnchorNames", spec := "anchorNames", unfollowed := true, recurses := true, loops := true, apart := false, narrowed := true }
def AnchorNamesUptoSaid : Prop := anchorNamesUptoRow.holds Try.pinned (OpenSpec.upto anchorNamesSpec)

/-- 'datakitlaw22.AnchorChecks', WHERE WHAT IT READS IS OF BULK AT MOST 1048576: true; the input reads as it did. -/
def anchorChecksUptoRow : OpenClaim := { program := "ytbfnmgiccbdglaa", sum := "ca536e8060acc49aff147d37bba45ce3d95b46cf43ef6e19a7f18e41470aade2", func := "datakit/datakitlaw22.AnchorChecks", spec := "anchorChecks", unfollowed := true, recurses := true, loops := true, apart := false, narrowed := true }
def AnchorChecksUptoSaid : Prop := anchorChecksUptoRow.holds Try.pinned (OpenSpec.upto anchorChecksSpec)

/-- 'datakitlaw22.AnchorLimits', WHERE WHAT IT READS IS OF BULK AT MOST 1048576: true; the input reads as it did. -/
def anchorLimitsUptoRow : OpenClaim := { program := "ytbfnmgiccbdglaa", sum := "ca536e8060acc49aff147d37bba45ce3d95b46cf43ef6e19a7f18e41470aade2", func := "datakit/datakitlaw22.AnchorLimits", spec := "anchorLimits", unfollowed := true, recurses := true, loops := true, apart := false, narrowed := true }
def AnchorLimitsUptoSaid : Prop := anchorLimitsUptoRow.holds Try.pinned (OpenSpec.upto anchorLimitsSpec)

/-- 'datakitlaw22.AnchorWithin', WHERE WHAT IT READS IS OF BULK AT MOST 1048576: true; the input reads as it did. -/
def anchorWithinUptoRow : OpenClaim := { program := "ytbfnmgiccbdglaa", sum := "ca536e8060acc49aff147d37bba45ce3d95b46cf43ef6e19a7f18e41470aade2", func := "datakit/datakitlaw22.AnchorWithin", spec := "anchorWithin", unfollowed := true, recurses := true, apart := false, narrowed := true }
def AnchorWithinUptoSaid : Prop := anchorWithinUptoRow.holds Try.pinned (OpenSpec.upto anchorWithinSpec)

/-- 'datakitlaw22.AnchorExpands', WHERE WHAT IT READS IS OF BULK AT MOST 1048576: true; the input reads as it did. -/
def anchorExpandsUptoRow : OpenClaim := { program := "ytbfnmgiccbdglaa", sum := "ca536e8060acc49aff147d37bba45ce3d95b46cf43ef6e19a7f18e41470aade2", func := "datakit/datakitlaw22.AnchorExpands", spec := "anchorExpands", unfollowed := true, recurses := true, loops := true, apart := false, narrowed := true }
def AnchorExpandsUptoSaid : Prop := anchorExpandsUptoRow.holds Try.pinned (OpenSpec.upto anchorExpandsSpec)

/-- 'datakitlaw22.AnchorBounded', WHERE WHAT IT READS IS OF BULK AT MOST 1048576: true; the input reads as it did. -/
def anchorBoundedUptoRow : OpenClaim := { program := "ytbfnmgiccbdglaa", sum := "ca536e8060acc49aff147d37bba45ce3d95b46cf43ef6e19a7f18e41470aade2", func := "datakit/datakitlaw22.AnchorBounded", spec := "anchorBounded", unfollowed := true, recurses := true, loops := true, apart := false, narrowed := true }
def AnchorBoundedUptoSaid : Prop := anchorBoundedUptoRow.holds Try.pinned (OpenSpec.upto anchorBoundedSpec)

end Rows
end Go.Proofs.Ytbfnmgiccbdglaa
