/-
  No cell of these rows narrows 'for every input' (looked for: loops, veiled, ifaces, maps, wideKeys, modest, calm, conditions, laid).
  DERIVED. THE GIVEN ROWS OF THIS SEAT. 5 by the template 'for every input the law returns true; each argument reads behind the call as it read before'; 0 by the template 'total and deterministic' (their statements: YtajbgkpjmgmdhaaTotals.lean).
  GIVEN WITH THE SEED: the statements are not yours to turn. If you find one false, say at which input.
  Laid BY PROGRAM, IN A SANDBOX (cutbox-rows.mjs): the forced cells as the released guide's own fill.sh prints them over the translation a2b639e6dc68dac5… (all of the seat's roots in one cut). By AI agents, Wed Nov 11 2026. No macro, syntax, notation, axiom, sorry.
-/
import Derived.Test.YtajbgkpjmgmdhaaChecked
import GoSem.Claim
import GoSem.ClaimJoined
import GoSem.ClaimMapViews
import Derived.JoinedTies
import Derived.KernelRfl
namespace Go.Proofs.Ytajbgkpjmgmdhaa
/- THE CELL 'sum', in the pinned program and in every row, IS THE sha256 OF THE DUMP (.gsa) THAT YtajbgkpjmgmdhaaProg.lean LOADS. Nothing in Lean hashes anything: it is a label: what it is worth is what the hold of that sum in a sandbox is worth. -/
noncomputable def Try.pinned : Pinned := { name := "ytajbgkpjmgmdhaa", sum := "a2b639e6dc68dac547cc48a84cd007a1b334c29c41e94ea9243eb78966a4d35e", checked := Try.checked }
namespace Rows
def none {H : Type} : Left H := { results := [], args := [] }

/-- 'laws.FnPool': WHATEVER THE INPUT: true; the input reads as it did. -/
def fnPoolSpec : ChangeSpec := { name := "fnPool", fn := fun _ => fun
  | [d] => { results := [.lit (.bool true)], args := [d] }
  | _ => none }
def fnPoolRow : OpenClaim := { program := "ytajbgkpjmgmdhaa", sum := "a2b639e6dc68dac547cc48a84cd007a1b334c29c41e94ea9243eb78966a4d35e", func := "loop.example/g00395/laws.FnPool", spec := "fnPool", apart := false }
def FnPoolSaid : Prop := fnPoolRow.holds Try.pinned (OpenSpec.ofChange fnPoolSpec)

/-- ITS FALSE NEIGHBOUR: 'it returns false'. Refute it at one input. -/
def fnPoolWrong : ChangeSpec := { name := "fnPool", fn := fun _ => fun
  | [d] => { results := [.lit (.bool false)], args := [d] }
  | _ => none }
def FnPoolWrongFalsely : Prop := fnPoolRow.holds Try.pinned (OpenSpec.ofChange fnPoolWrong)

/-- 'laws.FnExactPoolMake': WHATEVER THE INPUT: true; the input reads as it did. -/
def fnExactPoolMakeSpec : ChangeSpec := { name := "fnExactPoolMake", fn := fun _ => fun
  | [d1, d2] => { results := [.lit (.bool true)], args := [d1, d2] }
  | _ => none }
def fnExactPoolMakeRow : OpenClaim := { program := "ytajbgkpjmgmdhaa", sum := "a2b639e6dc68dac547cc48a84cd007a1b334c29c41e94ea9243eb78966a4d35e", func := "loop.example/g00395/laws.FnExactPoolMake", spec := "fnExactPoolMake", apart := false }
def FnExactPoolMakeSaid : Prop := fnExactPoolMakeRow.holds Try.pinned (OpenSpec.ofChange fnExactPoolMakeSpec)

/-- ITS FALSE NEIGHBOUR: 'it returns false'. Refute it at one input. -/
def fnExactPoolMakeWrong : ChangeSpec := { name := "fnExactPoolMake", fn := fun _ => fun
  | [d1, d2] => { results := [.lit (.bool false)], args := [d1, d2] }
  | _ => none }
def FnExactPoolMakeWrongFalsely : Prop := fnExactPoolMakeRow.holds Try.pinned (OpenSpec.ofChange fnExactPoolMakeWrong)

/-- 'laws.FnPoolSweep': WHATEVER THE INPUT: true; the input reads as it did. -/
def fnPoolSweepSpec : ChangeSpec := { name := "fnPoolSweep", fn := fun _ => fun
  | [d] => { results := [.lit (.bool true)], args := [d] }
  | _ => none }
def fnPoolSweepRow : OpenClaim := { program := "ytajbgkpjmgmdhaa", sum := "a2b639e6dc68dac547cc48a84cd007a1b334c29c41e94ea9243eb78966a4d35e", func := "loop.example/g00395/laws.FnPoolSweep", spec := "fnPoolSweep", unfollowed := true, recurses := true, apart := false }
def FnPoolSweepSaid : Prop := fnPoolSweepRow.holds Try.pinned (OpenSpec.ofChange fnPoolSweepSpec)

/-- ITS FALSE NEIGHBOUR: 'it returns false'. Refute it at one input. -/
def fnPoolSweepWrong : ChangeSpec := { name := "fnPoolSweep", fn := fun _ => fun
  | [d] => { results := [.lit (.bool false)], args := [d] }
  | _ => none }
def FnPoolSweepWrongFalsely : Prop := fnPoolSweepRow.holds Try.pinned (OpenSpec.ofChange fnPoolSweepWrong)

/-- 'laws.FnExactPoolSweep': WHATEVER THE INPUT: true; the input reads as it did. -/
def fnExactPoolSweepSpec : ChangeSpec := { name := "fnExactPoolSweep", fn := fun _ => fun
  | [d1, d2] => { results := [.lit (.bool true)], args := [d1, d2] }
  | _ => none }
def fnExactPoolSweepRow : OpenClaim := { program := "ytajbgkpjmgmdhaa", sum := "a2b639e6dc68dac547cc48a84cd007a1b334c29c41e94ea9243eb78966a4d35e", func := "loop.example/g00395/laws.FnExactPoolSweep", spec := "fnExactPoolSweep", unfollowed := true, recurses := true, apart := false }
def FnExactPoolSweepSaid : Prop := fnExactPoolSweepRow.holds Try.pinned (OpenSpec.ofChange fnExactPoolSweepSpec)

/-- ITS FALSE NEIGHBOUR: 'it returns false'. Refute it at one input. -/
def fnExactPoolSweepWrong : ChangeSpec := { name := "fnExactPoolSweep", fn := fun _ => fun
  | [d1, d2] => { results := [.lit (.bool false)], args := [d1, d2] }
  | _ => none }
def FnExactPoolSweepWrongFalsely : Prop := fnExactPoolSweepRow.holds Try.pinned (OpenSpec.ofChange fnExactPoolSweepWrong)

/-- 'laws.FnExactPoolPack': WHATEVER THE INPUT: true; the input reads as it did. -/
def fnExactPoolPackSpec : ChangeSpec := { name := "fnExactPoolPack", fn := fun _ => fun
  | [d1, d2] => { results := [.lit (.bool true)], args := [d1, d2] }
  | _ => none }
def fnExactPoolPackRow : OpenClaim := { program := "ytajbgkpjmgmdhaa", sum := "a2b639e6dc68dac547cc48a84cd007a1b334c29c41e94ea9243eb78966a4d35e", func := "loop.example/g00395/laws.FnExactPoolPack", spec := "fnExactPoolPack", unfollowed := true, recurses := true, apart := false }
def FnExactPoolPackSaid : Prop := fnExactPoolPackRow.holds Try.pinned (OpenSpec.ofChange fnExactPoolPackSpec)

/-- ITS FALSE NEIGHBOUR: 'it returns false'. Refute it at one input. -/
def fnExactPoolPackWrong : ChangeSpec := { name := "fnExactPoolPack", fn := fun _ => fun
  | [d1, d2] => { results := [.lit (.bool false)], args := [d1, d2] }
  | _ => none }
def FnExactPoolPackWrongFalsely : Prop := fnExactPoolPackRow.holds Try.pinned (OpenSpec.ofChange fnExactPoolPackWrong)

/- THE SECOND FORM. 'bulk': how many values and letters a reading holds, each counted each time it is reached (what is shared counts as often as it is met; a slice's spare places count too). A statement '..UptoSaid' is the law's where the arguments, and the package variables that the reading takes, are together of bulk at most 1048576: NARROWER than '..Said'. Prove '..Said' where nothing that the law and all that it calls make is longer than what came in: it says more and counts as full. Else prove '..UptoSaid'. A law counts once. -/
mutual
def uptoBulk {H : Type} : DataW H → Nat
  | .lit (.string bytes) => bytes.length + 1
  | .lit _ => 1
  | .nil => 1
  | .ptr d => uptoBulk d + 1
  | .slice elems spare => uptoBulkAll elems + uptoBulkAll spare + 1
  | .agg parts => uptoBulkAll parts + 1
  | .iface _ d => uptoBulk d + 1
  | .map entries => uptoBulkEntries entries + 1
  | .held _ => 1
def uptoBulkAll {H : Type} : List (DataW H) → Nat
  | [] => 0
  | d :: r => uptoBulk d + uptoBulkAll r
def uptoBulkEntries {H : Type} : List (Lit × DataW H) → Nat
  | [] => 0
  | x :: r => uptoBulkEntry x + uptoBulkEntries r
def uptoBulkEntry {H : Type} : Lit × DataW H → Nat
  | (.string bytes, d) => bytes.length + uptoBulk d + 1
  | (_, d) => uptoBulk d + 1
 end
def uptoSmall : (H : Type) → List (DataW H) → Bool := fun _ ds => decide (uptoBulkAll ds ≤ 1048576)
def OpenSpec.upto (s : _root_.Go.ChangeSpec) : _root_.Go.OpenSpec := { _root_.Go.OpenSpec.ofChange s with cond := some uptoSmall }

/-- 'laws.FnPool', WHERE WHAT IT READS IS OF BULK AT MOST 1048576: true; the input reads as it did. -/
def fnPoolUptoRow : OpenClaim := { program := "ytajbgkpjmgmdhaa", sum := "a2b639e6dc68dac547cc48a84cd007a1b334c29c41e94ea9243eb78966a4d35e", func := "loop.example/g00395/laws.FnPool", spec := "fnPool", apart := false, narrowed := true }
def FnPoolUptoSaid : Prop := fnPoolUptoRow.holds Try.pinned (OpenSpec.upto fnPoolSpec)

/-- 'laws.FnExactPoolMake', WHERE WHAT IT READS IS OF BULK AT MOST 1048576: true; the input reads as it did. -/
def fnExactPoolMakeUptoRow : OpenClaim := { program := "ytajbgkpjmgmdhaa", sum := "a2b639e6dc68dac547cc48a84cd007a1b334c29c41e94ea9243eb78966a4d35e", func := "loop.example/g00395/laws.FnExactPoolMake", spec := "fnExactPoolMake", apart := false, narrowed := true }
def FnExactPoolMakeUptoSaid : Prop := fnExactPoolMakeUptoRow.holds Try.pinned (OpenSpec.upto fnExactPoolMakeSpec)

/-- 'laws.FnPoolSweep', WHERE WHAT IT READS IS OF BULK AT MOST 1048576: true; the input reads as it did. -/
def fnPoolSweepUptoRow : OpenClaim := { program := "ytajbgkpjmgmdhaa", sum := "a2b639e6dc68dac547cc48a84cd007a1b334c29c41e94ea9243eb78966a4d35e", func := "loop.example/g00395/laws.FnPoolSweep", spec := "fnPoolSweep", unfollowed := true, recurses := true, apart := false, narrowed := true }
def FnPoolSweepUptoSaid : Prop := fnPoolSweepUptoRow.holds Try.pinned (OpenSpec.upto fnPoolSweepSpec)

/-- 'laws.FnExactPoolSweep', WHERE WHAT IT READS IS OF BULK AT MOST 1048576: true; the input reads as it did. -/
def fnExactPoolSweepUptoRow : OpenClaim := { program := "ytajbgkpjmgmdhaa", sum := "a2b639e6dc68dac547cc48a84cd007a1b334c29c41e94ea9243eb78966a4d35e", func := "loop.example/g00395/laws.FnExactPoolSweep", spec := "fnExactPoolSweep", unfollowed := true, recurses := true, apart := false, narrowed := true }
def FnExactPoolSweepUptoSaid : Prop := fnExactPoolSweepUptoRow.holds Try.pinned (OpenSpec.upto fnExactPoolSweepSpec)

/-- 'laws.FnExactPoolPack', WHERE WHAT IT READS IS OF BULK AT MOST 1048576: true; the input reads as it did. -/
def fnExactPoolPackUptoRow : OpenClaim := { program := "ytajbgkpjmgmdhaa", sum := "a2b639e6dc68dac547cc48a84cd007a1b334c29c41e94ea9243eb78966a4d35e", func := "loop.example/g00395/laws.FnExactPoolPack", spec := "fnExactPoolPack", unfollowed := true, recurses := true, apart := false, narrowed := true }
def FnExactPoolPackUptoSaid : Prop := fnExactPoolPackUptoRow.holds Try.pinned (OpenSpec.upto fnExactPoolPackSpec)

end Rows
end Go.Proofs.Ytajbgkpjmgmdhaa
