/-
  No cell of these rows narrows 'for every input' (looked for: loops, veiled, ifaces, maps, wideKeys, modest, calm, conditions, laid).
  DERIVED. THE GIVEN ROWS OF THIS SEAT. 3 by the template 'for every input the law returns true; each argument reads behind the call as it read before'; 0 by the template 'total and deterministic' (their statements: YtpblhonnknmjjaaTotals.lean).
  GIVEN WITH THE SEED: the statements are not yours to turn. If you find one false, say at which input.
  Laid BY PROGRAM, IN A SANDBOX (cutbox-rows.mjs): the forced cells as the released guide's own fill.sh prints them over the translation 48eaf0f094438808… (all of the seat's roots in one cut). By AI agents, Wed Nov 11 2026. No macro, syntax, notation, axiom, sorry.
-/
import Derived.Test.YtpblhonnknmjjaaChecked
import GoSem.Claim
import GoSem.ClaimJoined
import GoSem.ClaimMapViews
import Derived.JoinedTies
import Derived.KernelRfl
namespace Go.Proofs.Ytpblhonnknmjjaa
/- THE CELL 'sum', in the pinned program and in every row, IS THE sha256 OF THE DUMP (.gsa) THAT YtpblhonnknmjjaaProg.lean LOADS. Nothing in Lean hashes anything: it is a label: what it is worth is what the hold of that sum in a sandbox is worth. -/
noncomputable def Try.pinned : Pinned := { name := "ytpblhonnknmjjaa", sum := "48eaf0f094438808325191721e01fb08367920fa9db034254fb7d200db5008a9", checked := Try.checked }
namespace Rows
def none {H : Type} : Left H := { results := [], args := [] }

/-- 'laws.FnDataLess': WHATEVER THE INPUT: true; the input reads as it did. -/
def fnDataLessSpec : ChangeSpec := { name := "fnDataLess", fn := fun _ => fun
  | [d] => { results := [.lit (.bool true)], args := [d] }
  | _ => none }
def fnDataLessRow : OpenClaim := { program := "ytpblhonnknmjjaa", sum := "48eaf0f094438808325191721e01fb08367920fa9db034254fb7d200db5008a9", func := "loop.example/g00395/laws.FnDataLess", spec := "fnDataLess", unfollowed := true, recurses := true, apart := false }
def FnDataLessSaid : Prop := fnDataLessRow.holds Try.pinned (OpenSpec.ofChange fnDataLessSpec)

/-- ITS FALSE NEIGHBOUR: 'it returns false'. Refute it at one input. -/
def fnDataLessWrong : ChangeSpec := { name := "fnDataLess", fn := fun _ => fun
  | [d] => { results := [.lit (.bool false)], args := [d] }
  | _ => none }
def FnDataLessWrongFalsely : Prop := fnDataLessRow.holds Try.pinned (OpenSpec.ofChange fnDataLessWrong)

/-- 'laws.FnData': WHATEVER THE INPUT: true; the input reads as it did. -/
def fnDataSpec : ChangeSpec := { name := "fnData", fn := fun _ => fun
  | [d] => { results := [.lit (.bool true)], args := [d] }
  | _ => none }
def fnDataRow : OpenClaim := { program := "ytpblhonnknmjjaa", sum := "48eaf0f094438808325191721e01fb08367920fa9db034254fb7d200db5008a9", func := "loop.example/g00395/laws.FnData", spec := "fnData", unfollowed := true, recurses := true, apart := false }
def FnDataSaid : Prop := fnDataRow.holds Try.pinned (OpenSpec.ofChange fnDataSpec)

/-- ITS FALSE NEIGHBOUR: 'it returns false'. Refute it at one input. -/
def fnDataWrong : ChangeSpec := { name := "fnData", fn := fun _ => fun
  | [d] => { results := [.lit (.bool false)], args := [d] }
  | _ => none }
def FnDataWrongFalsely : Prop := fnDataRow.holds Try.pinned (OpenSpec.ofChange fnDataWrong)

/-- 'laws.FnExactTextData': WHATEVER THE INPUT: true; the input reads as it did. -/
def fnExactTextDataSpec : ChangeSpec := { name := "fnExactTextData", fn := fun _ => fun
  | [d] => { results := [.lit (.bool true)], args := [d] }
  | _ => none }
def fnExactTextDataRow : OpenClaim := { program := "ytpblhonnknmjjaa", sum := "48eaf0f094438808325191721e01fb08367920fa9db034254fb7d200db5008a9", func := "loop.example/g00395/laws.FnExactTextData", spec := "fnExactTextData", unfollowed := true, recurses := true, apart := false }
def FnExactTextDataSaid : Prop := fnExactTextDataRow.holds Try.pinned (OpenSpec.ofChange fnExactTextDataSpec)

/-- ITS FALSE NEIGHBOUR: 'it returns false'. Refute it at one input. -/
def fnExactTextDataWrong : ChangeSpec := { name := "fnExactTextData", fn := fun _ => fun
  | [d] => { results := [.lit (.bool false)], args := [d] }
  | _ => none }
def FnExactTextDataWrongFalsely : Prop := fnExactTextDataRow.holds Try.pinned (OpenSpec.ofChange fnExactTextDataWrong)

/- THE SECOND FORM. 'bulk': how many values and letters a reading holds, each counted each time it is reached (what is shared counts as often as it is met; a slice's spare places count too). A statement '..UptoSaid' is the law's where the arguments, and the package variables that the reading takes, are together of bulk at most 1048576: NARROWER than '..Said'. Prove '..Said' where nothing that the law and all that it calls make is longer than what came in: it says more and counts as full. Else prove '..UptoSaid'. A law counts once. -/
mutual
def uptoBulk {H : Type} : DataW H → Nat
  | .lit (.string bytes) => bytes.length + 1
  | .lit _ => 1
  | .nil => 1
  | .ptr d => uptoBulk d + 1
  | .slice elems spare => uptoBulkAll elems + uptoBulkAll spare + 1
  | .agg parts => uptoBulkAll parts + 1
  | .iface _ d => uptoBulk d + 1
  | .map entries => uptoBulkEntries entries + 1
  | .held _ => 1
def uptoBulkAll {H : Type} : List (DataW H) → Nat
  | [] => 0
  | d :: r => uptoBulk d + uptoBulkAll r
def uptoBulkEntries {H : Type} : List (Lit × DataW H) → Nat
  | [] => 0
  | x :: r => uptoBulkEntry x + uptoBulkEntries r
def uptoBulkEntry {H : Type} : Lit × DataW H → Nat
  | (.string bytes, d) => bytes.length + uptoBulk d + 1
  | (_, d) => uptoBulk d + 1
 end
def uptoSmall : (H : Type) → List (DataW H) → Bool := fun _ ds => decide (uptoBulkAll ds ≤ 1048576)
def OpenSpec.upto (s : _root_.Go.ChangeSpec) : _root_.Go.OpenSpec := { _root_.Go.OpenSpec.ofChange s with cond := some uptoSmall }

/-- 'laws.FnDataLess', WHERE WHAT IT READS IS OF BULK AT MOST 1048576: true; the input reads as it did. -/
def fnDataLessUptoRow : OpenClaim := { program := "ytpblhonnknmjjaa", sum := "48eaf0f094438808325191721e01fb08367920fa9db034254fb7d200db5008a9", func := "loop.example/g00395/laws.FnDataLess", spec := "fnDataLess", unfollowed := true, recurses := true, apart := false, narrowed := true }
def FnDataLessUptoSaid : Prop := fnDataLessUptoRow.holds Try.pinned (OpenSpec.upto fnDataLessSpec)

/-- 'laws.FnData', WHERE WHAT IT READS IS OF BULK AT MOST 1048576: true; the input reads as it did. -/
def fnDataUptoRow : OpenClaim := { program := "ytpblhonnknmjjaa", sum := "48eaf0f094438808325191721e01fb08367920fa9db034254fb7d200db5008a9", func := "loop.example/g00395/laws.FnData", spec := "fnData", unfollowed := true, recurses := true, apart := false, narrowed := true }
def FnDataUptoSaid : Prop := fnDataUptoRow.holds Try.pinned (OpenSpec.upto fnDataSpec)

/-- 'laws.FnExactTextData', WHERE WHAT IT READS IS OF BULK AT MOST 1048576: true; the input reads as it did. -/
def fnExactTextDataUptoRow : OpenClaim := { program := "ytpblhonnknmjjaa", sum := "48eaf0f094438808325191721e01fb08367920fa9db034254fb7d200db5008a9", func := "loop.example/g00395/laws.FnExactTextData", spec := "fnExactTextData", unfollowed := true, recurses := true, apart := false, narrowed := true }
def FnExactTextDataUptoSaid : Prop := fnExactTextDataUptoRow.holds Try.pinned (OpenSpec.upto fnExactTextDataSpec)

end Rows
end Go.Proofs.Ytpblhonnknmjjaa
