/-
  No cell of these rows narrows 'for every input' (looked for: loops, veiled, ifaces, maps, wideKeys, modest, calm, conditions, laid).
  DERIVED. THE GIVEN ROWS OF THIS SEAT. 6 by the template 'for every input the law returns true; each argument reads behind the call as it read before'; 0 by the template 'total and deterministic' (their statements: YtioecmmobfonjaaTotals.lean).
  GIVEN WITH THE SEED: the statements are not yours to turn. If you find one false, say at which input.
  Laid BY PROGRAM, IN A SANDBOX (cutbox-rows.mjs): the forced cells as the released guide's own fill.sh prints them over the translation 87400978288885db… (all of the seat's roots in one cut). By AI agents, Wed Nov 11 2026. No macro, syntax, notation, axiom, sorry.
-/
import Derived.Test.YtioecmmobfonjaaChecked
import GoSem.Claim
import GoSem.ClaimJoined
import GoSem.ClaimMapViews
import Derived.JoinedTies
import Derived.KernelRfl
namespace Go.Proofs.Ytioecmmobfonjaa
/- THE CELL 'sum', in the pinned program and in every row, IS THE sha256 OF THE DUMP (.gsa) THAT YtioecmmobfonjaaProg.lean LOADS. Nothing in Lean hashes anything: it is a label: what it is worth is what the hold of that sum in a sandbox is worth. -/
noncomputable def Try.pinned : Pinned := { name := "ytioecmmobfonjaa", sum := "87400978288885db586a5ad326a7a7ea14e7f65863d02b60b9f007303dc7788a", checked := Try.checked }
namespace Rows
def none {H : Type} : Left H := { results := [], args := [] }

/-- 'laws.FnExactLibNames': WHATEVER THE INPUT: true; the input reads as it did. -/
def fnExactLibNamesSpec : ChangeSpec := { name := "fnExactLibNames", fn := fun _ => fun
  | [] => { results := [.lit (.bool true)], args := [] }
  | _ => none }
def fnExactLibNamesRow : OpenClaim := { program := "ytioecmmobfonjaa", sum := "87400978288885db586a5ad326a7a7ea14e7f65863d02b60b9f007303dc7788a", func := "loop.example/g00395/laws.FnExactLibNames", spec := "fnExactLibNames", apart := false }
def FnExactLibNamesSaid : Prop := fnExactLibNamesRow.holds Try.pinned (OpenSpec.ofChange fnExactLibNamesSpec)

/-- ITS FALSE NEIGHBOUR: 'it returns false'. Refute it at one input. -/
def fnExactLibNamesWrong : ChangeSpec := { name := "fnExactLibNames", fn := fun _ => fun
  | [] => { results := [.lit (.bool false)], args := [] }
  | _ => none }
def FnExactLibNamesWrongFalsely : Prop := fnExactLibNamesRow.holds Try.pinned (OpenSpec.ofChange fnExactLibNamesWrong)

/-- 'laws.FnExactTalkText': WHATEVER THE INPUT: true; the input reads as it did. -/
def fnExactTalkTextSpec : ChangeSpec := { name := "fnExactTalkText", fn := fun _ => fun
  | [d1, d2] => { results := [.lit (.bool true)], args := [d1, d2] }
  | _ => none }
def fnExactTalkTextRow : OpenClaim := { program := "ytioecmmobfonjaa", sum := "87400978288885db586a5ad326a7a7ea14e7f65863d02b60b9f007303dc7788a", func := "loop.example/g00395/laws.FnExactTalkText", spec := "fnExactTalkText", apart := false }
def FnExactTalkTextSaid : Prop := fnExactTalkTextRow.holds Try.pinned (OpenSpec.ofChange fnExactTalkTextSpec)

/-- ITS FALSE NEIGHBOUR: 'it returns false'. Refute it at one input. -/
def fnExactTalkTextWrong : ChangeSpec := { name := "fnExactTalkText", fn := fun _ => fun
  | [d1, d2] => { results := [.lit (.bool false)], args := [d1, d2] }
  | _ => none }
def FnExactTalkTextWrongFalsely : Prop := fnExactTalkTextRow.holds Try.pinned (OpenSpec.ofChange fnExactTalkTextWrong)

/-- 'laws.FnExactPoolNew': WHATEVER THE INPUT: true; the input reads as it did. -/
def fnExactPoolNewSpec : ChangeSpec := { name := "fnExactPoolNew", fn := fun _ => fun
  | [d] => { results := [.lit (.bool true)], args := [d] }
  | _ => none }
def fnExactPoolNewRow : OpenClaim := { program := "ytioecmmobfonjaa", sum := "87400978288885db586a5ad326a7a7ea14e7f65863d02b60b9f007303dc7788a", func := "loop.example/g00395/laws.FnExactPoolNew", spec := "fnExactPoolNew", apart := false }
def FnExactPoolNewSaid : Prop := fnExactPoolNewRow.holds Try.pinned (OpenSpec.ofChange fnExactPoolNewSpec)

/-- ITS FALSE NEIGHBOUR: 'it returns false'. Refute it at one input. -/
def fnExactPoolNewWrong : ChangeSpec := { name := "fnExactPoolNew", fn := fun _ => fun
  | [d] => { results := [.lit (.bool false)], args := [d] }
  | _ => none }
def FnExactPoolNewWrongFalsely : Prop := fnExactPoolNewRow.holds Try.pinned (OpenSpec.ofChange fnExactPoolNewWrong)

/-- 'laws.FnExactPoolOk': WHATEVER THE INPUT: true; the input reads as it did. -/
def fnExactPoolOkSpec : ChangeSpec := { name := "fnExactPoolOk", fn := fun _ => fun
  | [d] => { results := [.lit (.bool true)], args := [d] }
  | _ => none }
def fnExactPoolOkRow : OpenClaim := { program := "ytioecmmobfonjaa", sum := "87400978288885db586a5ad326a7a7ea14e7f65863d02b60b9f007303dc7788a", func := "loop.example/g00395/laws.FnExactPoolOk", spec := "fnExactPoolOk", apart := false }
def FnExactPoolOkSaid : Prop := fnExactPoolOkRow.holds Try.pinned (OpenSpec.ofChange fnExactPoolOkSpec)

/-- ITS FALSE NEIGHBOUR: 'it returns false'. Refute it at one input. -/
def fnExactPoolOkWrong : ChangeSpec := { name := "fnExactPoolOk", fn := fun _ => fun
  | [d] => { results := [.lit (.bool false)], args := [d] }
  | _ => none }
def FnExactPoolOkWrongFalsely : Prop := fnExactPoolOkRow.holds Try.pinned (OpenSpec.ofChange fnExactPoolOkWrong)

/-- 'laws.FnExactPoolUsed': WHATEVER THE INPUT: true; the input reads as it did. -/
def fnExactPoolUsedSpec : ChangeSpec := { name := "fnExactPoolUsed", fn := fun _ => fun
  | [d] => { results := [.lit (.bool true)], args := [d] }
  | _ => none }
def fnExactPoolUsedRow : OpenClaim := { program := "ytioecmmobfonjaa", sum := "87400978288885db586a5ad326a7a7ea14e7f65863d02b60b9f007303dc7788a", func := "loop.example/g00395/laws.FnExactPoolUsed", spec := "fnExactPoolUsed", apart := false }
def FnExactPoolUsedSaid : Prop := fnExactPoolUsedRow.holds Try.pinned (OpenSpec.ofChange fnExactPoolUsedSpec)

/-- ITS FALSE NEIGHBOUR: 'it returns false'. Refute it at one input. -/
def fnExactPoolUsedWrong : ChangeSpec := { name := "fnExactPoolUsed", fn := fun _ => fun
  | [d] => { results := [.lit (.bool false)], args := [d] }
  | _ => none }
def FnExactPoolUsedWrongFalsely : Prop := fnExactPoolUsedRow.holds Try.pinned (OpenSpec.ofChange fnExactPoolUsedWrong)

/-- 'laws.FnExactDataDeep': WHATEVER THE INPUT: true; the input reads as it did. -/
def fnExactDataDeepSpec : ChangeSpec := { name := "fnExactDataDeep", fn := fun _ => fun
  | [d] => { results := [.lit (.bool true)], args := [d] }
  | _ => none }
def fnExactDataDeepRow : OpenClaim := { program := "ytioecmmobfonjaa", sum := "87400978288885db586a5ad326a7a7ea14e7f65863d02b60b9f007303dc7788a", func := "loop.example/g00395/laws.FnExactDataDeep", spec := "fnExactDataDeep", unfollowed := true, recurses := true, apart := false }
def FnExactDataDeepSaid : Prop := fnExactDataDeepRow.holds Try.pinned (OpenSpec.ofChange fnExactDataDeepSpec)

/-- ITS FALSE NEIGHBOUR: 'it returns false'. Refute it at one input. -/
def fnExactDataDeepWrong : ChangeSpec := { name := "fnExactDataDeep", fn := fun _ => fun
  | [d] => { results := [.lit (.bool false)], args := [d] }
  | _ => none }
def FnExactDataDeepWrongFalsely : Prop := fnExactDataDeepRow.holds Try.pinned (OpenSpec.ofChange fnExactDataDeepWrong)

/- THE SECOND FORM. 'bulk': how many values and letters a reading holds, each counted each time it is reached (what is shared counts as often as it is met; a slice's spare places count too). A statement '..UptoSaid' is the law's where the arguments, and the package variables that the reading takes, are together of bulk at most 1048576: NARROWER than '..Said'. Prove '..Said' where nothing that the law and all that it calls make is longer than what came in: it says more and counts as full. Else prove '..UptoSaid'. A law counts once. -/
mutual
def uptoBulk {H : Type} : DataW H → Nat
  | .lit (.string bytes) => bytes.length + 1
  | .lit _ => 1
  | .nil => 1
  | .ptr d => uptoBulk d + 1
  | .slice elems spare => uptoBulkAll elems + uptoBulkAll spare + 1
  | .agg parts => uptoBulkAll parts + 1
  | .iface _ d => uptoBulk d + 1
  | .map entries => uptoBulkEntries entries + 1
  | .held _ => 1
def uptoBulkAll {H : Type} : List (DataW H) → Nat
  | [] => 0
  | d :: r => uptoBulk d + uptoBulkAll r
def uptoBulkEntries {H : Type} : List (Lit × DataW H) → Nat
  | [] => 0
  | x :: r => uptoBulkEntry x + uptoBulkEntries r
def uptoBulkEntry {H : Type} : Lit × DataW H → Nat
  | (.string bytes, d) => bytes.length + uptoBulk d + 1
  | (_, d) => uptoBulk d + 1
 end
def uptoSmall : (H : Type) → List (DataW H) → Bool := fun _ ds => decide (uptoBulkAll ds ≤ 1048576)
def OpenSpec.upto (s : _root_.Go.ChangeSpec) : _root_.Go.OpenSpec := { _root_.Go.OpenSpec.ofChange s with cond := some uptoSmall }

/-- 'laws.FnExactLibNames', WHERE WHAT IT READS IS OF BULK AT MOST 1048576: true; the input reads as it did. -/
def fnExactLibNamesUptoRow : OpenClaim := { program := "ytioecmmobfonjaa", sum := "87400978288885db586a5ad326a7a7ea14e7f65863d02b60b9f007303dc7788a", func := "loop.example/g00395/laws.FnExactLibNames", spec := "fnExactLibNames", apart := false, narrowed := true }
def FnExactLibNamesUptoSaid : Prop := fnExactLibNamesUptoRow.holds Try.pinned (OpenSpec.upto fnExactLibNamesSpec)

/-- 'laws.FnExactTalkText', WHERE WHAT IT READS IS OF BULK AT MOST 1048576: true; the input reads as it did. -/
def fnExactTalkTextUptoRow : OpenClaim := { program := "ytioecmmobfonjaa", sum := "87400978288885db586a5ad326a7a7ea14e7f65863d02b60b9f007303dc7788a", func := "loop.example/g00395/laws.FnExactTalkText", spec := "fnExactTalkText", apart := false, narrowed := true }
def FnExactTalkTextUptoSaid : Prop := fnExactTalkTextUptoRow.holds Try.pinned (OpenSpec.upto fnExactTalkTextSpec)

/-- 'laws.FnExactPoolNew', WHERE WHAT IT READS IS OF BULK AT MOST 1048576: true; the input reads as it did. -/
def fnExactPoolNewUptoRow : OpenClaim := { program := "ytioecmmobfonjaa", sum := "87400978288885db586a5ad326a7a7ea14e7f65863d02b60b9f007303dc7788a", func := "loop.example/g00395/laws.FnExactPoolNew", spec := "fnExactPoolNew", apart := false, narrowed := true }
def FnExactPoolNewUptoSaid : Prop := fnExactPoolNewUptoRow.holds Try.pinned (OpenSpec.upto fnExactPoolNewSpec)

/-- 'laws.FnExactPoolOk', WHERE WHAT IT READS IS OF BULK AT MOST 1048576: true; the input reads as it did. -/
def fnExactPoolOkUptoRow : OpenClaim := { program := "ytioecmmobfonjaa", sum := "87400978288885db586a5ad326a7a7ea14e7f65863d02b60b9f007303dc7788a", func := "loop.example/g00395/laws.FnExactPoolOk", spec := "fnExactPoolOk", apart := false, narrowed := true }
def FnExactPoolOkUptoSaid : Prop := fnExactPoolOkUptoRow.holds Try.pinned (OpenSpec.upto fnExactPoolOkSpec)

/-- 'laws.FnExactPoolUsed', WHERE WHAT IT READS IS OF BULK AT MOST 1048576: true; the input reads as it did. -/
def fnExactPoolUsedUptoRow : OpenClaim := { program := "ytioecmmobfonjaa", sum := "87400978288885db586a5ad326a7a7ea14e7f65863d02b60b9f007303dc7788a", func := "loop.example/g00395/laws.FnExactPoolUsed", spec := "fnExactPoolUsed", apart := false, narrowed := true }
def FnExactPoolUsedUptoSaid : Prop := fnExactPoolUsedUptoRow.holds Try.pinned (OpenSpec.upto fnExactPoolUsedSpec)

/-- 'laws.FnExactDataDeep', WHERE WHAT IT READS IS OF BULK AT MOST 1048576: true; the input reads as it did. -/
def fnExactDataDeepUptoRow : OpenClaim := { program := "ytioecmmobfonjaa", sum := "87400978288885db586a5ad326a7a7ea14e7f65863d02b60b9f007303dc7788a", func := "loop.example/g00395/laws.FnExactDataDeep", spec := "fnExactDataDeep", unfollowed := true, recurses := true, apart := false, narrowed := true }
def FnExactDataDeepUptoSaid : Prop := fnExactDataDeepUptoRow.holds Try.pinned (OpenSpec.upto fnExactDataDeepSpec)

end Rows
end Go.Proofs.Ytioecmmobfonjaa
