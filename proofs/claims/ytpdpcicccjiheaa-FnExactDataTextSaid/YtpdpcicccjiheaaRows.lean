/-
  No cell of these rows narrows 'for every input' (looked for: loops, veiled, ifaces, maps, wideKeys, modest, calm, conditions, laid).
  DERIVED. THE GIVEN ROWS OF THIS SEAT. 4 by the template 'for every input the law returns true; each argument reads behind the call as it read before'; 0 by the template 'total and deterministic' (their statements: YtpdpcicccjiheaaTotals.lean).
  GIVEN WITH THE SEED: the statements are not yours to turn. If you find one false, say at which input.
  Laid BY PROGRAM, IN A SANDBOX (cutbox-rows.mjs): the forced cells as the released guide's own fill.sh prints them over the translation 46cf3756a127ad39… (all of the seat's roots in one cut). By AI agents, Wed Nov 11 2026. No macro, syntax, notation, axiom, sorry.
-/
import Derived.Test.YtpdpcicccjiheaaChecked
import GoSem.Claim
import GoSem.ClaimJoined
import GoSem.ClaimMapViews
import Derived.JoinedTies
import Derived.KernelRfl
namespace Go.Proofs.Ytpdpcicccjiheaa
/- THE CELL 'sum', in the pinned program and in every row, IS THE sha256 OF THE DUMP (.gsa) THAT YtpdpcicccjiheaaProg.lean LOADS. Nothing in Lean hashes anything: it is a label: what it is worth is what the hold of that sum in a sandbox is worth. -/
noncomputable def Try.pinned : Pinned := { name := "ytpdpcicccjiheaa", sum := "46cf3756a127ad39152117c3219182f65f6cd4c0beafb87494775995638decb7", checked := Try.checked }
namespace Rows
def none {H : Type} : Left H := { results := [], args := [] }

/-- 'laws.FnExactDataLess': WHATEVER THE INPUT: true; the input reads as it did. -/
def fnExactDataLessSpec : ChangeSpec := { name := "fnExactDataLess", fn := fun _ => fun
  | [d1, d2] => { results := [.lit (.bool true)], args := [d1, d2] }
  | _ => none }
def fnExactDataLessRow : OpenClaim := { program := "ytpdpcicccjiheaa", sum := "46cf3756a127ad39152117c3219182f65f6cd4c0beafb87494775995638decb7", func := "loop.example/g00395/laws.FnExactDataLess", spec := "fnExactDataLess", unfollowed := true, recurses := true, apart := false }
def FnExactDataLessSaid : Prop := fnExactDataLessRow.holds Try.pinned (OpenSpec.ofChange fnExactDataLessSpec)

/-- ITS FALSE NEIGHBOUR: 'it returns false'. Refute it at one input. -/
def fnExactDataLessWrong : ChangeSpec := { name := "fnExactDataLess", fn := fun _ => fun
  | [d1, d2] => { results := [.lit (.bool false)], args := [d1, d2] }
  | _ => none }
def FnExactDataLessWrongFalsely : Prop := fnExactDataLessRow.holds Try.pinned (OpenSpec.ofChange fnExactDataLessWrong)

/-- 'laws.FnExactCaseOk': WHATEVER THE INPUT: true; the input reads as it did. -/
def fnExactCaseOkSpec : ChangeSpec := { name := "fnExactCaseOk", fn := fun _ => fun
  | [d] => { results := [.lit (.bool true)], args := [d] }
  | _ => none }
def fnExactCaseOkRow : OpenClaim := { program := "ytpdpcicccjiheaa", sum := "46cf3756a127ad39152117c3219182f65f6cd4c0beafb87494775995638decb7", func := "loop.example/g00395/laws.FnExactCaseOk", spec := "fnExactCaseOk", inPlace := ["internal/bytealg.IndexByteString", "internal/bytealg.IndexString"], unfollowed := true, recurses := true, named := ["internal/bytealg.MaxLen"], apart := false }
def FnExactCaseOkSaid : Prop := fnExactCaseOkRow.holds Try.pinned (OpenSpec.ofChange fnExactCaseOkSpec)

/-- ITS FALSE NEIGHBOUR: 'it returns false'. Refute it at one input. -/
def fnExactCaseOkWrong : ChangeSpec := { name := "fnExactCaseOk", fn := fun _ => fun
  | [d] => { results := [.lit (.bool false)], args := [d] }
  | _ => none }
def FnExactCaseOkWrongFalsely : Prop := fnExactCaseOkRow.holds Try.pinned (OpenSpec.ofChange fnExactCaseOkWrong)

/-- 'laws.FnExactDataText': WHATEVER THE INPUT: true; the input reads as it did. -/
def fnExactDataTextSpec : ChangeSpec := { name := "fnExactDataText", fn := fun _ => fun
  | [d] => { results := [.lit (.bool true)], args := [d] }
  | _ => none }
def fnExactDataTextRow : OpenClaim := { program := "ytpdpcicccjiheaa", sum := "46cf3756a127ad39152117c3219182f65f6cd4c0beafb87494775995638decb7", func := "loop.example/g00395/laws.FnExactDataText", spec := "fnExactDataText", unfollowed := true, recurses := true, apart := false }
def FnExactDataTextSaid : Prop := fnExactDataTextRow.holds Try.pinned (OpenSpec.ofChange fnExactDataTextSpec)

/-- ITS FALSE NEIGHBOUR: 'it returns false'. Refute it at one input. -/
def fnExactDataTextWrong : ChangeSpec := { name := "fnExactDataText", fn := fun _ => fun
  | [d] => { results := [.lit (.bool false)], args := [d] }
  | _ => none }
def FnExactDataTextWrongFalsely : Prop := fnExactDataTextRow.holds Try.pinned (OpenSpec.ofChange fnExactDataTextWrong)

/-- 'laws.FnExactPoolMake': WHATEVER THE INPUT: true; the input reads as it did. -/
def fnExactPoolMakeSpec : ChangeSpec := { name := "fnExactPoolMake", fn := fun _ => fun
  | [d1, d2] => { results := [.lit (.bool true)], args := [d1, d2] }
  | _ => none }
def fnExactPoolMakeRow : OpenClaim := { program := "ytpdpcicccjiheaa", sum := "46cf3756a127ad39152117c3219182f65f6cd4c0beafb87494775995638decb7", func := "loop.example/g00395/laws.FnExactPoolMake", spec := "fnExactPoolMake", apart := false }
def FnExactPoolMakeSaid : Prop := fnExactPoolMakeRow.holds Try.pinned (OpenSpec.ofChange fnExactPoolMakeSpec)

/-- ITS FALSE NEIGHBOUR: 'it returns false'. Refute it at one input. -/
def fnExactPoolMakeWrong : ChangeSpec := { name := "fnExactPoolMake", fn := fun _ => fun
  | [d1, d2] => { results := [.lit (.bool false)], args := [d1, d2] }
  | _ => none }
def FnExactPoolMakeWrongFalsely : Prop := fnExactPoolMakeRow.holds Try.pinned (OpenSpec.ofChange fnExactPoolMakeWrong)

/- THE SECOND FORM. 'bulk': how many values and letters a reading holds, each counted each time it is reached (what is shared counts as often as it is met; a slice's spare places count too). A statement '..UptoSaid' is the law's where the arguments, and the package variables that the reading takes, are together of bulk at most 1048576: NARROWER than '..Said'. Prove '..Said' where nothing that the law and all that it calls make is longer than what came in: it says more and counts as full. Else prove '..UptoSaid'. A law counts once. -/
mutual
def uptoBulk {H : Type} : DataW H → Nat
  | .lit (.string bytes) => bytes.length + 1
  | .lit _ => 1
  | .nil => 1
  | .ptr d => uptoBulk d + 1
  | .slice elems spare => uptoBulkAll elems + uptoBulkAll spare + 1
  | .agg parts => uptoBulkAll parts + 1
  | .iface _ d => uptoBulk d + 1
  | .map entries => uptoBulkEntries entries + 1
  | .held _ => 1
def uptoBulkAll {H : Type} : List (DataW H) → Nat
  | [] => 0
  | d :: r => uptoBulk d + uptoBulkAll r
def uptoBulkEntries {H : Type} : List (Lit × DataW H) → Nat
  | [] => 0
  | x :: r => uptoBulkEntry x + uptoBulkEntries r
def uptoBulkEntry {H : Type} : Lit × DataW H → Nat
  | (.string bytes, d) => bytes.length + uptoBulk d + 1
  | (_, d) => uptoBulk d + 1
 end
def uptoSmall : (H : Type) → List (DataW H) → Bool := fun _ ds => decide (uptoBulkAll ds ≤ 1048576)
def OpenSpec.upto (s : _root_.Go.ChangeSpec) : _root_.Go.OpenSpec := { _root_.Go.OpenSpec.ofChange s with cond := some uptoSmall }

/-- 'laws.FnExactDataLess', WHERE WHAT IT READS IS OF BULK AT MOST 1048576: true; the input reads as it did. -/
def fnExactDataLessUptoRow : OpenClaim := { program := "ytpdpcicccjiheaa", sum := "46cf3756a127ad39152117c3219182f65f6cd4c0beafb87494775995638decb7", func := "loop.example/g00395/laws.FnExactDataLess", spec := "fnExactDataLess", unfollowed := true, recurses := true, apart := false, narrowed := true }
def FnExactDataLessUptoSaid : Prop := fnExactDataLessUptoRow.holds Try.pinned (OpenSpec.upto fnExactDataLessSpec)

/-- 'laws.FnExactCaseOk', WHERE WHAT IT READS IS OF BULK AT MOST 1048576: true; the input reads as it did. -/
def fnExactCaseOkUptoRow : OpenClaim := { program := "ytpdpcicccjiheaa", sum := "46cf3756a127ad39152117c3219182f65f6cd4c0beafb87494775995638decb7", func := "loop.example/g00395/laws.FnExactCaseOk", spec := "fnExactCaseOk", inPlace := ["internal/bytealg.IndexByteString", "internal/bytealg.IndexString"], unfollowed := true, recurses := true, named := ["internal/bytealg.MaxLen"], apart := false, narrowed := true }
def FnExactCaseOkUptoSaid : Prop := fnExactCaseOkUptoRow.holds Try.pinned (OpenSpec.upto fnExactCaseOkSpec)

/-- 'laws.FnExactDataText', WHERE WHAT IT READS IS OF BULK AT MOST 1048576: true; the input reads as it did. -/
def fnExactDataTextUptoRow : OpenClaim := { program := "ytpdpcicccjiheaa", sum := "46cf3756a127ad39152117c3219182f65f6cd4c0beafb87494775995638decb7", func := "loop.example/g00395/laws.FnExactDataText", spec := "fnExactDataText", unfollowed := true, recurses := true, apart := false, narrowed := true }
def FnExactDataTextUptoSaid : Prop := fnExactDataTextUptoRow.holds Try.pinned (OpenSpec.upto fnExactDataTextSpec)

/-- 'laws.FnExactPoolMake', WHERE WHAT IT READS IS OF BULK AT MOST 1048576: true; the input reads as it did. -/
def fnExactPoolMakeUptoRow : OpenClaim := { program := "ytpdpcicccjiheaa", sum := "46cf3756a127ad39152117c3219182f65f6cd4c0beafb87494775995638decb7", func := "loop.example/g00395/laws.FnExactPoolMake", spec := "fnExactPoolMake", apart := false, narrowed := true }
def FnExactPoolMakeUptoSaid : Prop := fnExactPoolMakeUptoRow.holds Try.pinned (OpenSpec.upto fnExactPoolMakeSpec)

end Rows
end Go.Proofs.Ytpdpcicccjiheaa
