/-
  NARROWER THAN 'FOR EVERY INPUT', by the rows' own cells (each row's printed sentence says how): LimitValues: loops · LimitNests: loops.
  DERIVED. THE GIVEN ROWS OF THIS SEAT. 8 by the template 'for every input the law returns true; each argument reads behind the call as it read before'; 0 by the template 'total and deterministic' (their statements: YtlfhiolngpoamaaTotals.lean).
  GIVEN WITH THE SEED: the statements are not yours to turn. If you find one false, say at which input.
  Laid BY PROGRAM, IN A SANDBOX (cutbox-rows.mjs): the forced cells as the released guide's own fill.sh prints them over the translation f63a9b41a039718a… (all of the seat's roots in one cut). By AI agents, Wed Nov 11 2026. No macro, syntax, notation, axiom, sorry.
-/
import Derived.Test.YtlfhiolngpoamaaChecked
import GoSem.Claim
import GoSem.ClaimJoined
import GoSem.ClaimMapViews
import Derived.JoinedTies
import Derived.KernelRfl
namespace Go.Proofs.Ytlfhiolngpoamaa
/- THE CELL 'sum', in the pinned program and in every row, IS THE sha256 OF THE DUMP (.gsa) THAT YtlfhiolngpoamaaProg.lean LOADS. Nothing in Lean hashes anything: it is a label: what it is worth is what the hold of that sum in a sandbox is worth. -/
noncomputable def Try.pinned : Pinned := { name := "ytlfhiolngpoamaa", sum := "f63a9b41a039718af4eee212080741273690f0fcb6709f6f003a31d7d24261ae", checked := Try.checked }
namespace Rows
def none {H : Type} : Left H := { results := [], args := [] }

/-- 'datakitlaw11.LimitAliases': WHATEVER THE INPUT: true; the input reads as it did. -/
def limitAliasesSpec : ChangeSpec := { name := "limitAliases", fn := fun _ => fun
  | [d1, d2, d3] => { results := [.lit (.bool true)], args := [d1, d2, d3] }
  | _ => none }
def limitAliasesRow : OpenClaim := { program := "ytlfhiolngpoamaa", sum := "f63a9b41a039718af4eee212080741273690f0fcb6709f6f003a31d7d24261ae", func := "datakit/datakitlaw11.LimitAliases", spec := "limitAliases", apart := false }
def LimitAliasesSaid : Prop := limitAliasesRow.holds Try.pinned (OpenSpec.ofChange limitAliasesSpec)

/-- ITS FALSE NEIGHBOUR: 'it returns false'. Refute it at one input. -/
def limitAliasesWrong : ChangeSpec := { name := "limitAliases", fn := fun _ => fun
  | [d1, d2, d3] => { results := [.lit (.bool false)], args := [d1, d2, d3] }
  | _ => none }
def LimitAliasesWrongFalsely : Prop := limitAliasesRow.holds Try.pinned (OpenSpec.ofChange limitAliasesWrong)

/-- 'datakitlaw11.LimitValid': WHATEVER THE INPUT: true; the input reads as it did. -/
def limitValidSpec : ChangeSpec := { name := "limitValid", fn := fun _ => fun
  | [d1, d2] => { results := [.lit (.bool true)], args := [d1, d2] }
  | _ => none }
def limitValidRow : OpenClaim := { program := "ytlfhiolngpoamaa", sum := "f63a9b41a039718af4eee212080741273690f0fcb6709f6f003a31d7d24261ae", func := "datakit/datakitlaw11.LimitValid", spec := "limitValid", apart := false }
def LimitValidSaid : Prop := limitValidRow.holds Try.pinned (OpenSpec.ofChange limitValidSpec)

/-- ITS FALSE NEIGHBOUR: 'it returns false'. Refute it at one input. -/
def limitValidWrong : ChangeSpec := { name := "limitValid", fn := fun _ => fun
  | [d1, d2] => { results := [.lit (.bool false)], args := [d1, d2] }
  | _ => none }
def LimitValidWrongFalsely : Prop := limitValidRow.holds Try.pinned (OpenSpec.ofChange limitValidWrong)

/-- 'datakitlaw11.LimitOpens': WHATEVER THE INPUT: true; the input reads as it did. -/
def limitOpensSpec : ChangeSpec := { name := "limitOpens", fn := fun _ => fun
  | [d1, d2] => { results := [.lit (.bool true)], args := [d1, d2] }
  | _ => none }
def limitOpensRow : OpenClaim := { program := "ytlfhiolngpoamaa", sum := "f63a9b41a039718af4eee212080741273690f0fcb6709f6f003a31d7d24261ae", func := "datakit/datakitlaw11.LimitOpens", spec := "limitOpens", apart := false }
def LimitOpensSaid : Prop := limitOpensRow.holds Try.pinned (OpenSpec.ofChange limitOpensSpec)

/-- ITS FALSE NEIGHBOUR: 'it returns false'. Refute it at one input. -/
def limitOpensWrong : ChangeSpec := { name := "limitOpens", fn := fun _ => fun
  | [d1, d2] => { results := [.lit (.bool false)], args := [d1, d2] }
  | _ => none }
def LimitOpensWrongFalsely : Prop := limitOpensRow.holds Try.pinned (OpenSpec.ofChange limitOpensWrong)

/-- 'datakitlaw11.LimitAdds': WHATEVER THE INPUT: true; the input reads as it did. -/
def limitAddsSpec : ChangeSpec := { name := "limitAdds", fn := fun _ => fun
  | [d1, d2, d3] => { results := [.lit (.bool true)], args := [d1, d2, d3] }
  | _ => none }
def limitAddsRow : OpenClaim := { program := "ytlfhiolngpoamaa", sum := "f63a9b41a039718af4eee212080741273690f0fcb6709f6f003a31d7d24261ae", func := "datakit/datakitlaw11.LimitAdds", spec := "limitAdds", apart := false }
def LimitAddsSaid : Prop := limitAddsRow.holds Try.pinned (OpenSpec.ofChange limitAddsSpec)

/-- ITS FALSE NEIGHBOUR: 'it returns false'. Refute it at one input. -/
def limitAddsWrong : ChangeSpec := { name := "limitAdds", fn := fun _ => fun
  | [d1, d2, d3] => { results := [.lit (.bool false)], args := [d1, d2, d3] }
  | _ => none }
def LimitAddsWrongFalsely : Prop := limitAddsRow.holds Try.pinned (OpenSpec.ofChange limitAddsWrong)

/-- 'datakitlaw11.LimitSums': WHATEVER THE INPUT: true; the input reads as it did. -/
def limitSumsSpec : ChangeSpec := { name := "limitSums", fn := fun _ => fun
  | [d1, d2] => { results := [.lit (.bool true)], args := [d1, d2] }
  | _ => none }
def limitSumsRow : OpenClaim := { program := "ytlfhiolngpoamaa", sum := "f63a9b41a039718af4eee212080741273690f0fcb6709f6f003a31d7d24261ae", func := "datakit/datakitlaw11.LimitSums", spec := "limitSums", apart := false }
def LimitSumsSaid : Prop := limitSumsRow.holds Try.pinned (OpenSpec.ofChange limitSumsSpec)

/-- ITS FALSE NEIGHBOUR: 'it returns false'. Refute it at one input. -/
def limitSumsWrong : ChangeSpec := { name := "limitSums", fn := fun _ => fun
  | [d1, d2] => { results := [.lit (.bool false)], args := [d1, d2] }
  | _ => none }
def LimitSumsWrongFalsely : Prop := limitSumsRow.holds Try.pinned (OpenSpec.ofChange limitSumsWrong)

/-- 'datakitlaw11.LimitKeeps': WHATEVER THE INPUT: true; the input reads as it did. -/
def limitKeepsSpec : ChangeSpec := { name := "limitKeeps", fn := fun _ => fun
  | [d1, d2, d3] => { results := [.lit (.bool true)], args := [d1, d2, d3] }
  | _ => none }
def limitKeepsRow : OpenClaim := { program := "ytlfhiolngpoamaa", sum := "f63a9b41a039718af4eee212080741273690f0fcb6709f6f003a31d7d24261ae", func := "datakit/datakitlaw11.LimitKeeps", spec := "limitKeeps", apart := false }
def LimitKeepsSaid : Prop := limitKeepsRow.holds Try.pinned (OpenSpec.ofChange limitKeepsSpec)

/-- ITS FALSE NEIGHBOUR: 'it returns false'. Refute it at one input. -/
def limitKeepsWrong : ChangeSpec := { name := "limitKeeps", fn := fun _ => fun
  | [d1, d2, d3] => { results := [.lit (.bool false)], args := [d1, d2, d3] }
  | _ => none }
def LimitKeepsWrongFalsely : Prop := limitKeepsRow.holds Try.pinned (OpenSpec.ofChange limitKeepsWrong)

/-- 'datakitlaw11.LimitValues': WHATEVER THE INPUT: true; the input reads as it did. -/
def limitValuesSpec : ChangeSpec := { name := "limitValues", fn := fun _ => fun
  | [d1, d2] => { results := [.lit (.bool true)], args := [d1, d2] }
  | _ => none }
def limitValuesRow : OpenClaim := { program := "ytlfhiolngpoamaa", sum := "f63a9b41a039718af4eee212080741273690f0fcb6709f6f003a31d7d24261ae", func := "datakit/datakitlaw11.LimitValues", spec := "limitValues", recurses := true, loops := true, apart := false }
def LimitValuesSaid : Prop := limitValuesRow.holds Try.pinned (OpenSpec.ofChange limitValuesSpec)

/-- ITS FALSE NEIGHBOUR: 'it returns false'. Refute it at one input. -/
def limitValuesWrong : ChangeSpec := { name := "limitValues", fn := fun _ => fun
  | [d1, d2] => { results := [.lit (.bool false)], args := [d1, d2] }
  | _ => none }
def LimitValuesWrongFalsely : Prop := limitValuesRow.holds Try.pinned (OpenSpec.ofChange limitValuesWrong)

/-- 'datakitlaw11.LimitNests': WHATEVER THE INPUT: true; the input reads as it did. -/
def limitNestsSpec : ChangeSpec := { name := "limitNests", fn := fun _ => fun
  | [d1, d2, d3] => { results := [.lit (.bool true)], args := [d1, d2, d3] }
  | _ => none }
def limitNestsRow : OpenClaim := { program := "ytlfhiolngpoamaa", sum := "f63a9b41a039718af4eee212080741273690f0fcb6709f6f003a31d7d24261ae", func := "datakit/datakitlaw11.LimitNests", spec := "limitNests", recurses := true, loops := true, apart := false }
def LimitNestsSaid : Prop := limitNestsRow.holds Try.pinned (OpenSpec.ofChange limitNestsSpec)

/-- ITS FALSE NEIGHBOUR: 'it returns false'. Refute it at one input. -/
def limitNestsWrong : ChangeSpec := { name := "limitNests", fn := fun _ => fun
  | [d1, d2, d3] => { results := [.lit (.bool false)], args := [d1, d2, d3] }
  | _ => none }
def LimitNestsWrongFalsely : Prop := limitNestsRow.holds Try.pinned (OpenSpec.ofChange limitNestsWrong)

/- THE SECOND FORM. 'bulk': how many values and letters a reading holds, each counted each time it is reached (what is shared counts as often as it is met; a slice's spare places count too). A statement '..UptoSaid' is the law's where the arguments, and the package variables that the reading takes, are together of bulk at most 1048576: NARROWER than '..Said'. Prove '..Said' where nothing that the law and all that it calls make is longer than what came in: it says more and counts as full. Else prove '..UptoSaid'. A law counts once. -/
mutual
def uptoBulk {H : Type} : DataW H → Nat
  | .lit (.string bytes) => bytes.length + 1
  | .lit _ => 1
  | .nil => 1
  | .ptr d => uptoBulk d + 1
  | .slice elems spare => uptoBulkAll elems + uptoBulkAll spare + 1
  | .agg parts => uptoBulkAll parts + 1
  | .iface _ d => uptoBulk d + 1
  | .map entries => uptoBulkEntries entries + 1
  | .held _ => 1
def uptoBulkAll {H : Type} : List (DataW H) → Nat
  | [] => 0
  | d :: r => uptoBulk d + uptoBulkAll r
def uptoBulkEntries {H : Type} : List (Lit × DataW H) → Nat
  | [] => 0
  | x :: r => uptoBulkEntry x + uptoBulkEntries r
def uptoBulkEntry {H : Type} : Lit × DataW H → Nat
  | (.string bytes, d) => bytes.length + uptoBulk d + 1
  | (_, d) => uptoBulk d + 1
 end
def uptoSmall : (H : Type) → List (DataW H) → Bool := fun _ ds => decide (uptoBulkAll ds ≤ 1048576)
def OpenSpec.upto (s : _root_.Go.ChangeSpec) : _root_.Go.OpenSpec := { _root_.Go.OpenSpec.ofChange s with cond := some uptoSmall }

/-- 'datakitlaw11.LimitAliases', WHERE WHAT IT READS IS OF BULK AT MOST 1048576: true; the input reads as it did. -/
def limitAliasesUptoRow : OpenClaim := { program := "ytlfhiolngpoamaa", sum := "f63a9b41a039718af4eee212080741273690f0fcb6709f6f003a31d7d24261ae", func := "datakit/datakitlaw11.LimitAliases", spec := "limitAliases", apart := false, narrowed := true }
def LimitAliasesUptoSaid : Prop := limitAliasesUptoRow.holds Try.pinned (OpenSpec.upto limitAliasesSpec)

/-- 'datakitlaw11.LimitValid', WHERE WHAT IT READS IS OF BULK AT MOST 1048576: true; the input reads as it did. -/
def limitValidUptoRow : OpenClaim := { program := "ytlfhiolngpoamaa", sum := "f63a9b41a039718af4eee212080741273690f0fcb6709f6f003a31d7d24261ae", func := "datakit/datakitlaw11.LimitValid", spec := "limitValid", apart := false, narrowed := true }
def LimitValidUptoSaid : Prop := limitValidUptoRow.holds Try.pinned (OpenSpec.upto limitValidSpec)

/-- 'datakitlaw11.LimitOpens', WHERE WHAT IT READS IS OF BULK AT MOST 1048576: true; the input reads as it did. -/
def limitOpensUptoRow : OpenClaim := { program := "ytlfhiolngpoamaa", sum := "f63a9b41a039718af4eee212080741273690f0fcb6709f6f003a31d7d24261ae", func := "datakit/datakitlaw11.LimitOpens", spec := "limitOpens", apart := false, narrowed := true }
def LimitOpensUptoSaid : Prop := limitOpensUptoRow.holds Try.pinned (OpenSpec.upto limitOpensSpec)

/-- 'datakitlaw11.LimitAdds', WHERE WHAT IT READS IS OF BULK AT MOST 1048576: true; the input reads as it did. -/
def limitAddsUptoRow : OpenClaim := { program := "ytlfhiolngpoamaa", sum := "f63a9b41a039718af4eee212080741273690f0fcb6709f6f003a31d7d24261ae", func := "datakit/datakitlaw11.LimitAdds", spec := "limitAdds", apart := false, narrowed := true }
def LimitAddsUptoSaid : Prop := limitAddsUptoRow.holds Try.pinned (OpenSpec.upto limitAddsSpec)

/-- 'datakitlaw11.LimitSums', WHERE WHAT IT READS IS OF BULK AT MOST 1048576: true; the input reads as it did. -/
def limitSumsUptoRow : OpenClaim := { program := "ytlfhiolngpoamaa", sum := "f63a9b41a039718af4eee212080741273690f0fcb6709f6f003a31d7d24261ae", func := "datakit/datakitlaw11.LimitSums", spec := "limitSums", apart := false, narrowed := true }
def LimitSumsUptoSaid : Prop := limitSumsUptoRow.holds Try.pinned (OpenSpec.upto limitSumsSpec)

/-- 'datakitlaw11.LimitKeeps', WHERE WHAT IT READS IS OF BULK AT MOST 1048576: true; the input reads as it did. -/
def limitKeepsUptoRow : OpenClaim := { program := "ytlfhiolngpoamaa", sum := "f63a9b41a039718af4eee212080741273690f0fcb6709f6f003a31d7d24261ae", func := "datakit/datakitlaw11.LimitKeeps", spec := "limitKeeps", apart := false, narrowed := true }
def LimitKeepsUptoSaid : Prop := limitKeepsUptoRow.holds Try.pinned (OpenSpec.upto limitKeepsSpec)

/-- 'datakitlaw11.LimitValues', WHERE WHAT IT READS IS OF BULK AT MOST 1048576: true; the input reads as it did. -/
def limitValuesUptoRow : OpenClaim := { program := "ytlfhiolngpoamaa", sum := "f63a9b41a039718af4eee212080741273690f0fcb6709f6f003a31d7d24261ae", func := "datakit/datakitlaw11.LimitValues", spec := "limitValues", recurses := true, loops := true, apart := false, narrowed := true }
def LimitValuesUptoSaid : Prop := limitValuesUptoRow.holds Try.pinned (OpenSpec.upto limitValuesSpec)

/-- 'datakitlaw11.LimitNests', WHERE WHAT IT READS IS OF BULK AT MOST 1048576: true; the input reads as it did. -/
def limitNestsUptoRow : OpenClaim := { program := "ytlfhiolngpoamaa", sum := "f63a9b41a039718af4eee212080741273690f0fcb6709f6f003a31d7d24261ae", func := "datakit/datakitlaw11.LimitNests", spec := "limitNests", recurses := true, loops := true, apart := false, narrowed := true }
def LimitNestsUptoSaid : Prop := limitNestsUptoRow.holds Try.pinned (OpenSpec.upto limitNestsSpec)

end Rows
end Go.Proofs.Ytlfhiolngpoamaa
