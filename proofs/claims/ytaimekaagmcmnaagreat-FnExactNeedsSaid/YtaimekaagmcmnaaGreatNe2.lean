/- Parts of the proof, merged: Types, ExT, Kept, Own, Within. -/
import Derived.Deep.AppendLies
import Derived.Test.YtaimekaagmcmnaaGreatRows
import Derived.Test.YtaimekaagmcmnaaGreatNe1
/- The data types of the program as plain structures: how each reads in memory, and how much it holds. Printed by gen_types.py. -/
namespace Go.Proofs.YtaimekaagmcmnaaGreat
open Go.RowKit
set_option linter.unusedVariables false

structure GVal where
  kind : Int
  n : Int
  s : ByteArray
  deriving DecidableEq

def GVal.wf (x : GVal) : Prop := I64 x.kind ∧ I64 x.n ∧ StrOk x.s

def GVal.R : Reading GVal := fun lo w r x => r = [.int .i64 x.kind, .int .i64 x.n, .string x.s] ∧ x.wf
theorem GVal.good : Reading.Good GVal.R := ⟨fun h _ => h, fun h _ => h⟩

def GVal.bulk (x : GVal) : Int := (x.s.size : Int)

theorem GVal.bulk_nonneg (x : GVal) : 0 ≤ x.bulk := by
  unfold GVal.bulk
  have h0 := size_nonneg x.s
  omega

def GVal.zero : GVal := ⟨0, 0, ByteArray.empty⟩

structure GCell where
  kind : Int
  n : Int
  s : ByteArray
  a : GVal
  b : GVal
  deriving DecidableEq

def GCell.wf (x : GCell) : Prop := I64 x.kind ∧ I64 x.n ∧ StrOk x.s ∧ I64 x.a.kind ∧ I64 x.a.n ∧ StrOk x.a.s ∧ I64 x.b.kind ∧ I64 x.b.n ∧ StrOk x.b.s

def GCell.R : Reading GCell := fun lo w r x => r = [.int .i64 x.kind, .int .i64 x.n, .string x.s, .int .i64 x.a.kind, .int .i64 x.a.n, .string x.a.s, .int .i64 x.b.kind, .int .i64 x.b.n, .string x.b.s] ∧ x.wf
theorem GCell.good : Reading.Good GCell.R := ⟨fun h _ => h, fun h _ => h⟩

def GCell.bulk (x : GCell) : Int := (x.s.size : Int) + (x.a.s.size : Int) + (x.b.s.size : Int)

theorem GCell.bulk_nonneg (x : GCell) : 0 ≤ x.bulk := by
  unfold GCell.bulk
  have h0 := size_nonneg x.s
  have h1 := size_nonneg x.a.s
  have h2 := size_nonneg x.b.s
  omega

def GCell.zero : GCell := ⟨0, 0, ByteArray.empty, GVal.zero, GVal.zero⟩

structure GPool where
  cells : List GCell
  free : List Int
  deriving DecidableEq

def GPool.wf (x : GPool) : Prop := True

def GPool.R : Reading GPool := fun lo w r x => ∃ u0 u1 : Value, r = [u0, u1] ∧ x.wf ∧ Sl GCell.R 9 lo w u0 x.cells ∧ Sl IntR 1 lo w u1 x.free
theorem GPool.good : Reading.Good GPool.R := ⟨fun ⟨u0, u1, e, f, h0, h1⟩ hb => ⟨u0, u1, e, f, h0.agree GCell.good hb, h1.agree IntR.good hb⟩, fun ⟨u0, u1, e, f, h0, h1⟩ hl => ⟨u0, u1, e, f, h0.mono GCell.good hl, h1.mono IntR.good hl⟩⟩

def GPool.bulk (x : GPool) : Int := bulkS GCell.bulk x.cells + (x.free.length : Int)

theorem GPool.bulk_nonneg (x : GPool) : 0 ≤ x.bulk := by
  unfold GPool.bulk
  have h0 := bulkS_nonneg GCell.bulk_nonneg x.cells
  have h1 := length_nonneg x.free
  omega

def GPool.zero : GPool := ⟨[], []⟩

structure GDNode where
  kind : Int
  n : Int
  s : ByteArray
  kids : List Int
  deriving DecidableEq

def GDNode.wf (x : GDNode) : Prop := I64 x.kind ∧ I64 x.n ∧ StrOk x.s

def GDNode.R : Reading GDNode := fun lo w r x => ∃ u0 : Value, r = [.int .i64 x.kind, .int .i64 x.n, .string x.s, u0] ∧ x.wf ∧ Sl IntR 1 lo w u0 x.kids
theorem GDNode.good : Reading.Good GDNode.R := ⟨fun ⟨u0, e, f, h0⟩ hb => ⟨u0, e, f, h0.agree IntR.good hb⟩, fun ⟨u0, e, f, h0⟩ hl => ⟨u0, e, f, h0.mono IntR.good hl⟩⟩

def GDNode.bulk (x : GDNode) : Int := (x.s.size : Int) + (x.kids.length : Int)

theorem GDNode.bulk_nonneg (x : GDNode) : 0 ≤ x.bulk := by
  unfold GDNode.bulk
  have h0 := size_nonneg x.s
  have h1 := length_nonneg x.kids
  omega

def GDNode.zero : GDNode := ⟨0, 0, ByteArray.empty, []⟩

structure GData where
  nodes : List GDNode
  deriving DecidableEq

def GData.wf (x : GData) : Prop := True

def GData.R : Reading GData := fun lo w r x => ∃ u0 : Value, r = [u0] ∧ x.wf ∧ Sl GDNode.R 4 lo w u0 x.nodes
theorem GData.good : Reading.Good GData.R := ⟨fun ⟨u0, e, f, h0⟩ hb => ⟨u0, e, f, h0.agree GDNode.good hb⟩, fun ⟨u0, e, f, h0⟩ hl => ⟨u0, e, f, h0.mono GDNode.good hl⟩⟩

def GData.bulk (x : GData) : Int := bulkS GDNode.bulk x.nodes

theorem GData.bulk_nonneg (x : GData) : 0 ≤ x.bulk := by
  unfold GData.bulk
  have h0 := bulkS_nonneg GDNode.bulk_nonneg x.nodes
  omega

def GData.zero : GData := ⟨[]⟩

structure GTalk where
  types : List ByteArray
  defs : List ByteArray
  deriving DecidableEq

def GTalk.wf (x : GTalk) : Prop := True

def GTalk.R : Reading GTalk := fun lo w r x => ∃ u0 u1 : Value, r = [u0, u1] ∧ x.wf ∧ Sl StrR 1 lo w u0 x.types ∧ Sl StrR 1 lo w u1 x.defs
theorem GTalk.good : Reading.Good GTalk.R := ⟨fun ⟨u0, u1, e, f, h0, h1⟩ hb => ⟨u0, u1, e, f, h0.agree StrR.good hb, h1.agree StrR.good hb⟩, fun ⟨u0, u1, e, f, h0, h1⟩ hl => ⟨u0, u1, e, f, h0.mono StrR.good hl, h1.mono StrR.good hl⟩⟩

def GTalk.bulk (x : GTalk) : Int := bulkS (fun s : ByteArray => (s.size : Int)) x.types + bulkS (fun s : ByteArray => (s.size : Int)) x.defs

theorem GTalk.bulk_nonneg (x : GTalk) : 0 ≤ x.bulk := by
  unfold GTalk.bulk
  have h0 := bulkS_nonneg size_nonneg x.types
  have h1 := bulkS_nonneg size_nonneg x.defs
  omega

def GTalk.zero : GTalk := ⟨[], []⟩

structure GCase where
  name : ByteArray
  lines : List ByteArray
  inputs : List Int
  want : List ByteArray
  deriving DecidableEq

def GCase.wf (x : GCase) : Prop := StrOk x.name

def GCase.R : Reading GCase := fun lo w r x => ∃ u0 u1 u2 : Value, r = [.string x.name, u0, u1, u2] ∧ x.wf ∧ Sl StrR 1 lo w u0 x.lines ∧ Sl IntR 1 lo w u1 x.inputs ∧ Sl StrR 1 lo w u2 x.want
theorem GCase.good : Reading.Good GCase.R := ⟨fun ⟨u0, u1, u2, e, f, h0, h1, h2⟩ hb => ⟨u0, u1, u2, e, f, h0.agree StrR.good hb, h1.agree IntR.good hb, h2.agree StrR.good hb⟩, fun ⟨u0, u1, u2, e, f, h0, h1, h2⟩ hl => ⟨u0, u1, u2, e, f, h0.mono StrR.good hl, h1.mono IntR.good hl, h2.mono StrR.good hl⟩⟩

def GCase.bulk (x : GCase) : Int := (x.name.size : Int) + bulkS (fun s : ByteArray => (s.size : Int)) x.lines + (x.inputs.length : Int) + bulkS (fun s : ByteArray => (s.size : Int)) x.want

theorem GCase.bulk_nonneg (x : GCase) : 0 ≤ x.bulk := by
  unfold GCase.bulk
  have h0 := size_nonneg x.name
  have h1 := bulkS_nonneg size_nonneg x.lines
  have h2 := length_nonneg x.inputs
  have h3 := bulkS_nonneg size_nonneg x.want
  omega

def GCase.zero : GCase := ⟨ByteArray.empty, [], [], []⟩

structure GPNode where
  kind : Int
  n : Int
  s : ByteArray
  kids : List Int
  deriving DecidableEq

def GPNode.wf (x : GPNode) : Prop := I64 x.kind ∧ I64 x.n ∧ StrOk x.s

def GPNode.R : Reading GPNode := fun lo w r x => ∃ u0 : Value, r = [.int .i64 x.kind, .int .i64 x.n, .string x.s, u0] ∧ x.wf ∧ Sl IntR 1 lo w u0 x.kids
theorem GPNode.good : Reading.Good GPNode.R := ⟨fun ⟨u0, e, f, h0⟩ hb => ⟨u0, e, f, h0.agree IntR.good hb⟩, fun ⟨u0, e, f, h0⟩ hl => ⟨u0, e, f, h0.mono IntR.good hl⟩⟩

def GPNode.bulk (x : GPNode) : Int := (x.s.size : Int) + (x.kids.length : Int)

theorem GPNode.bulk_nonneg (x : GPNode) : 0 ≤ x.bulk := by
  unfold GPNode.bulk
  have h0 := size_nonneg x.s
  have h1 := length_nonneg x.kids
  omega

def GPNode.zero : GPNode := ⟨0, 0, ByteArray.empty, []⟩

structure GPat where
  nodes : List GPNode
  deriving DecidableEq

def GPat.wf (x : GPat) : Prop := True

def GPat.R : Reading GPat := fun lo w r x => ∃ u0 : Value, r = [u0] ∧ x.wf ∧ Sl GPNode.R 4 lo w u0 x.nodes
theorem GPat.good : Reading.Good GPat.R := ⟨fun ⟨u0, e, f, h0⟩ hb => ⟨u0, e, f, h0.agree GPNode.good hb⟩, fun ⟨u0, e, f, h0⟩ hl => ⟨u0, e, f, h0.mono GPNode.good hl⟩⟩

def GPat.bulk (x : GPat) : Int := bulkS GPNode.bulk x.nodes

theorem GPat.bulk_nonneg (x : GPat) : 0 ≤ x.bulk := by
  unfold GPat.bulk
  have h0 := bulkS_nonneg GPNode.bulk_nonneg x.nodes
  omega

def GPat.zero : GPat := ⟨[]⟩

structure GIns where
  op : Int
  a : Int
  b : Int
  s : ByteArray
  deriving DecidableEq

def GIns.wf (x : GIns) : Prop := I64 x.op ∧ I64 x.a ∧ I64 x.b ∧ StrOk x.s

def GIns.R : Reading GIns := fun lo w r x => r = [.int .i64 x.op, .int .i64 x.a, .int .i64 x.b, .string x.s] ∧ x.wf
theorem GIns.good : Reading.Good GIns.R := ⟨fun h _ => h, fun h _ => h⟩

def GIns.bulk (x : GIns) : Int := (x.s.size : Int)

theorem GIns.bulk_nonneg (x : GIns) : 0 ≤ x.bulk := by
  unfold GIns.bulk
  have h0 := size_nonneg x.s
  omega

def GIns.zero : GIns := ⟨0, 0, 0, ByteArray.empty⟩

structure GCode where
  ins : List GIns
  pats : List GPat
  deriving DecidableEq

def GCode.wf (x : GCode) : Prop := True

def GCode.R : Reading GCode := fun lo w r x => ∃ u0 u1 : Value, r = [u0, u1] ∧ x.wf ∧ Sl GIns.R 4 lo w u0 x.ins ∧ Sl GPat.R 1 lo w u1 x.pats
theorem GCode.good : Reading.Good GCode.R := ⟨fun ⟨u0, u1, e, f, h0, h1⟩ hb => ⟨u0, u1, e, f, h0.agree GIns.good hb, h1.agree GPat.good hb⟩, fun ⟨u0, u1, e, f, h0, h1⟩ hl => ⟨u0, u1, e, f, h0.mono GIns.good hl, h1.mono GPat.good hl⟩⟩

def GCode.bulk (x : GCode) : Int := bulkS GIns.bulk x.ins + bulkS GPat.bulk x.pats

theorem GCode.bulk_nonneg (x : GCode) : 0 ≤ x.bulk := by
  unfold GCode.bulk
  have h0 := bulkS_nonneg GIns.bulk_nonneg x.ins
  have h1 := bulkS_nonneg GPat.bulk_nonneg x.pats
  omega

def GCode.zero : GCode := ⟨[], []⟩

structure GTyItem where
  var : Int
  name : ByteArray
  arity : Int
  deriving DecidableEq

def GTyItem.wf (x : GTyItem) : Prop := I64 x.var ∧ StrOk x.name ∧ I64 x.arity

def GTyItem.R : Reading GTyItem := fun lo w r x => r = [.int .i64 x.var, .string x.name, .int .i64 x.arity] ∧ x.wf
theorem GTyItem.good : Reading.Good GTyItem.R := ⟨fun h _ => h, fun h _ => h⟩

def GTyItem.bulk (x : GTyItem) : Int := (x.name.size : Int)

theorem GTyItem.bulk_nonneg (x : GTyItem) : 0 ≤ x.bulk := by
  unfold GTyItem.bulk
  have h0 := size_nonneg x.name
  omega

def GTyItem.zero : GTyItem := ⟨0, ByteArray.empty, 0⟩

structure GTy where
  items : List GTyItem
  deriving DecidableEq

def GTy.wf (x : GTy) : Prop := True

def GTy.R : Reading GTy := fun lo w r x => ∃ u0 : Value, r = [u0] ∧ x.wf ∧ Sl GTyItem.R 3 lo w u0 x.items
theorem GTy.good : Reading.Good GTy.R := ⟨fun ⟨u0, e, f, h0⟩ hb => ⟨u0, e, f, h0.agree GTyItem.good hb⟩, fun ⟨u0, e, f, h0⟩ hl => ⟨u0, e, f, h0.mono GTyItem.good hl⟩⟩

def GTy.bulk (x : GTy) : Int := bulkS GTyItem.bulk x.items

theorem GTy.bulk_nonneg (x : GTy) : 0 ≤ x.bulk := by
  unfold GTy.bulk
  have h0 := bulkS_nonneg GTyItem.bulk_nonneg x.items
  omega

def GTy.zero : GTy := ⟨[]⟩

structure GCon where
  name : ByteArray
  has : Bool
  arg : GTy
  deriving DecidableEq

def GCon.wf (x : GCon) : Prop := StrOk x.name

def GCon.R : Reading GCon := fun lo w r x => ∃ u0 : Value, r = [.string x.name, .bool x.has, u0] ∧ x.wf ∧ Sl GTyItem.R 3 lo w u0 x.arg.items
theorem GCon.good : Reading.Good GCon.R := ⟨fun ⟨u0, e, f, h0⟩ hb => ⟨u0, e, f, h0.agree GTyItem.good hb⟩, fun ⟨u0, e, f, h0⟩ hl => ⟨u0, e, f, h0.mono GTyItem.good hl⟩⟩

def GCon.bulk (x : GCon) : Int := (x.name.size : Int) + bulkS GTyItem.bulk x.arg.items

theorem GCon.bulk_nonneg (x : GCon) : 0 ≤ x.bulk := by
  unfold GCon.bulk
  have h0 := size_nonneg x.name
  have h1 := bulkS_nonneg GTyItem.bulk_nonneg x.arg.items
  omega

def GCon.zero : GCon := ⟨ByteArray.empty, false, GTy.zero⟩

structure GType where
  name : ByteArray
  params : Int
  cons : List GCon
  deriving DecidableEq

def GType.wf (x : GType) : Prop := StrOk x.name ∧ I64 x.params

def GType.R : Reading GType := fun lo w r x => ∃ u0 : Value, r = [.string x.name, .int .i64 x.params, u0] ∧ x.wf ∧ Sl GCon.R 3 lo w u0 x.cons
theorem GType.good : Reading.Good GType.R := ⟨fun ⟨u0, e, f, h0⟩ hb => ⟨u0, e, f, h0.agree GCon.good hb⟩, fun ⟨u0, e, f, h0⟩ hl => ⟨u0, e, f, h0.mono GCon.good hl⟩⟩

def GType.bulk (x : GType) : Int := (x.name.size : Int) + bulkS GCon.bulk x.cons

theorem GType.bulk_nonneg (x : GType) : 0 ≤ x.bulk := by
  unfold GType.bulk
  have h0 := size_nonneg x.name
  have h1 := bulkS_nonneg GCon.bulk_nonneg x.cons
  omega

def GType.zero : GType := ⟨ByteArray.empty, 0, []⟩

structure GTok where
  kind : Int
  n : Int
  s : ByteArray
  at_ : Int
  deriving DecidableEq

def GTok.wf (x : GTok) : Prop := I64 x.kind ∧ I64 x.n ∧ StrOk x.s ∧ I64 x.at_

def GTok.R : Reading GTok := fun lo w r x => r = [.int .i64 x.kind, .int .i64 x.n, .string x.s, .int .i64 x.at_] ∧ x.wf
theorem GTok.good : Reading.Good GTok.R := ⟨fun h _ => h, fun h _ => h⟩

def GTok.bulk (x : GTok) : Int := (x.s.size : Int)

theorem GTok.bulk_nonneg (x : GTok) : 0 ≤ x.bulk := by
  unfold GTok.bulk
  have h0 := size_nonneg x.s
  omega

def GTok.zero : GTok := ⟨0, 0, ByteArray.empty, 0⟩

structure GNode where
  kind : Int
  at_ : Int
  n : Int
  s : ByteArray
  kids : List Int
  pats : List GPat
  deriving DecidableEq

def GNode.wf (x : GNode) : Prop := I64 x.kind ∧ I64 x.at_ ∧ I64 x.n ∧ StrOk x.s

def GNode.R : Reading GNode := fun lo w r x => ∃ u0 u1 : Value, r = [.int .i64 x.kind, .int .i64 x.at_, .int .i64 x.n, .string x.s, u0, u1] ∧ x.wf ∧ Sl IntR 1 lo w u0 x.kids ∧ Sl GPat.R 1 lo w u1 x.pats
theorem GNode.good : Reading.Good GNode.R := ⟨fun ⟨u0, u1, e, f, h0, h1⟩ hb => ⟨u0, u1, e, f, h0.agree IntR.good hb, h1.agree GPat.good hb⟩, fun ⟨u0, u1, e, f, h0, h1⟩ hl => ⟨u0, u1, e, f, h0.mono IntR.good hl, h1.mono GPat.good hl⟩⟩

def GNode.bulk (x : GNode) : Int := (x.s.size : Int) + (x.kids.length : Int) + bulkS GPat.bulk x.pats

theorem GNode.bulk_nonneg (x : GNode) : 0 ≤ x.bulk := by
  unfold GNode.bulk
  have h0 := size_nonneg x.s
  have h1 := length_nonneg x.kids
  have h2 := bulkS_nonneg GPat.bulk_nonneg x.pats
  omega

def GNode.zero : GNode := ⟨0, 0, 0, ByteArray.empty, [], []⟩

structure GProgram where
  types : List GType
  nodes : List GNode
  deriving DecidableEq

def GProgram.wf (x : GProgram) : Prop := True

def GProgram.R : Reading GProgram := fun lo w r x => ∃ u0 u1 : Value, r = [u0, u1] ∧ x.wf ∧ Sl GType.R 3 lo w u0 x.types ∧ Sl GNode.R 6 lo w u1 x.nodes
theorem GProgram.good : Reading.Good GProgram.R := ⟨fun ⟨u0, u1, e, f, h0, h1⟩ hb => ⟨u0, u1, e, f, h0.agree GType.good hb, h1.agree GNode.good hb⟩, fun ⟨u0, u1, e, f, h0, h1⟩ hl => ⟨u0, u1, e, f, h0.mono GType.good hl, h1.mono GNode.good hl⟩⟩

def GProgram.bulk (x : GProgram) : Int := bulkS GType.bulk x.types + bulkS GNode.bulk x.nodes

theorem GProgram.bulk_nonneg (x : GProgram) : 0 ≤ x.bulk := by
  unfold GProgram.bulk
  have h0 := bulkS_nonneg GType.bulk_nonneg x.types
  have h1 := bulkS_nonneg GNode.bulk_nonneg x.nodes
  omega

def GProgram.zero : GProgram := ⟨[], []⟩

end Go.Proofs.YtaimekaagmcmnaaGreat

/- Expressions as trees: plain; how they are laid into a list of nodes. -/
namespace Go.Proofs.YtaimekaagmcmnaaGreat
open Go.RowKit
set_option linter.unusedVariables false
set_option linter.unusedSimpArgs false

inductive ExT where
  | mk (kind at_ n : Int) (s : ByteArray) (kids : List ExT) (pats : List GPat)
def ExT.kind : ExT → Int | .mk k _ _ _ _ _ => k
def ExT.at_ : ExT → Int | .mk _ a _ _ _ _ => a
def ExT.n : ExT → Int | .mk _ _ n _ _ _ => n
def ExT.s : ExT → ByteArray | .mk _ _ _ s _ _ => s
def ExT.kids : ExT → List ExT | .mk _ _ _ _ k _ => k
def ExT.pats : ExT → List GPat | .mk _ _ _ _ _ p => p
def ExT.wf (t : ExT) : Prop := I64 t.kind ∧ I64 t.at_ ∧ I64 t.n ∧ StrOk t.s

mutual
def szE : ExT → Nat
  | .mk _ _ _ _ ks _ => szEs ks + 1
def szEs : List ExT → Nat
  | [] => 0
  | k :: ks => szE k + szEs ks
end
def plE : Nat → List ExT → List Int
  | _, [] => []
  | nx, k :: ks => (nx : Int) :: plE (nx + szE k) ks
mutual
def layE : Nat → ExT → List GNode
  | a, .mk kd at_ n s ks ps => ⟨kd, at_, n, s, plE (a + 1) ks, ps⟩ :: layEs (a + 1) ks
def layEs : Nat → List ExT → List GNode
  | _, [] => []
  | a, k :: ks => layE a k ++ layEs (a + szE k) ks
end
theorem szE_mk (kd at_ n : Int) (s : ByteArray) (ks : List ExT) (ps : List GPat) : szE (.mk kd at_ n s ks ps) = szEs ks + 1 := by rw [szE]
theorem layE_mk (a : Nat) (kd at_ n : Int) (s : ByteArray) (ks : List ExT) (ps : List GPat) : layE a (.mk kd at_ n s ks ps) = ⟨kd, at_, n, s, plE (a + 1) ks, ps⟩ :: layEs (a + 1) ks := by rw [layE]
theorem szEs_append : ∀ (l m : List ExT), szEs (l ++ m) = szEs l + szEs m
  | [], m => by simp [szEs]
  | k :: l, m => by simp only [List.cons_append, szEs, szEs_append l m]; omega
theorem plE_append : ∀ (l m : List ExT) (nx : Nat), plE nx (l ++ m) = plE nx l ++ plE (nx + szEs l) m
  | [], m, nx => by simp [szEs, plE]
  | k :: l, m, nx => by simp only [List.cons_append, plE, szEs, plE_append l m, Nat.add_assoc]
theorem layEs_append : ∀ (l m : List ExT) (nx : Nat), layEs nx (l ++ m) = layEs nx l ++ layEs (nx + szEs l) m
  | [], m, nx => by simp [szEs, layEs]
  | k :: l, m, nx => by simp only [List.cons_append, layEs, szEs, layEs_append l m, Nat.add_assoc, List.append_assoc]
theorem plE_len : ∀ (l : List ExT) (nx : Nat), (plE nx l).length = l.length
  | [], _ => rfl
  | k :: l, nx => by simp only [plE, List.length_cons, plE_len l]
mutual
theorem layE_len : ∀ (t : ExT) (a : Nat), (layE a t).length = szE t
  | .mk kd at_ n s ks ps, a => by rw [layE, szE, List.length_cons, layEs_len]
theorem layEs_len : ∀ (l : List ExT) (a : Nat), (layEs a l).length = szEs l
  | [], a => by rw [layEs, szEs]; rfl
  | k :: ks, a => by rw [layEs, szEs, List.length_append, layE_len, layEs_len]
end
theorem szE_pos (t : ExT) : 0 < szE t := by cases t; rw [szE]; omega
theorem szEs_take (l : List ExT) (k : Nat) : szEs (l.take k) ≤ szEs l := by
  conv => rhs; rw [← List.take_append_drop k l]
  rw [szEs_append]; omega
theorem len_szEs : ∀ (l : List ExT), l.length ≤ szEs l
  | [] => Nat.zero_le _
  | k :: l => by have := len_szEs l; have := szE_pos k; simp only [List.length_cons, szEs]; omega
end Go.Proofs.YtaimekaagmcmnaaGreat

/- What may be written, what is kept, what is written; digits. No program is named here. -/
namespace Go.Proofs.YtaimekaagmcmnaaGreat
open Go.RowKit
set_option linter.unusedVariables false
set_option linter.unusedSimpArgs false

def dig (n : Nat) : UInt8 := UInt8.ofNat (48 + n % 10)
def digs (n : Nat) (s : ByteArray) : ByteArray := if n = 0 then s else digs (n / 10) (⟨#[dig n]⟩ ++ s)
def markT (n : Nat) : ByteArray := if n = 0 then ⟨#[109, 48]⟩ else ⟨#[109]⟩ ++ digs n ⟨#[]⟩
theorem digs_zero (s : ByteArray) : digs 0 s = s := by rw [digs]; rfl
theorem digs_pos {n : Nat} (h : n ≠ 0) (s : ByteArray) : digs n s = digs (n / 10) (⟨#[dig n]⟩ ++ s) := by conv => lhs; rw [digs]; rw [if_neg h]

/-! ### What may be written, and what is written -/
def Kept (S : Nat → Prop) (w w' : World) : Prop := ∀ k, k < w.heap.size → ¬ S k → w'.heap[k]? = w.heap[k]?
theorem Kept.refl (S : Nat → Prop) (w : World) : Kept S w w := fun _ _ _ => rfl
theorem Kept.trans {S : Nat → Prop} {a b c : World} (h : Kept S a b) (hs : a.heap.size ≤ b.heap.size) (h' : Kept S b c) : Kept S a c := fun k h1 h2 => (h' k (by omega) h2).trans (h k h1 h2)
theorem Kept.below {S : Nat → Prop} {a b : World} (h : Below a.heap.size a b) : Kept S a b := fun k h1 _ => h.block k h1
theorem Kept.set {S : Nat → Prop} {a b : World} (h : Kept S a b) {p : Addr} (hp : S p.block) (u : Value) : Kept S a (b.setCell p u) := fun k h1 h2 =>
  (Below.heap_setCell _ _ _ _ (fun e => h2 (by rw [e]; exact hp))).trans (h k h1 h2)

def Wr (w : World) (b off N : Nat) : Prop := ∀ j, j < N → ∃ c, w.cell? ⟨b, off + j, none⟩ = some c ∧ w.frozen? ⟨b, off + j, none⟩ = false
theorem Wr.below {w w' : World} {b off N : Nat} (h : Wr w b off N) (hb : Below w.heap.size w w') : Wr w' b off N := fun j hj =>
  let ⟨c, h1, h2⟩ := h j hj
  ⟨c, cell_below hb h1, by rw [hb.frozen (p := ⟨b, off + j, none⟩) (World.block_lt_of_cell? w _ h1), h2]⟩
theorem Wr.set {w : World} {b off N : Nat} (h : Wr w b off N) (o : Nat) (u : Value) : Wr (w.setCell ⟨b, o, none⟩ u) b off N := fun j hj => by
  obtain ⟨c, h1, h2⟩ := h j hj
  by_cases e : o = off + j
  · subst e; exact ⟨u, cell_setCell_eq _ _ _ _ h1, by rw [frozen_setCell, h2]⟩
  · exact ⟨c, by rw [cell_setCell_ne _ _ _ _ _ e, h1], by rw [frozen_setCell, h2]⟩
def Mk (w : World) (b off N : Nat) (f : Nat → Value) : Prop := ∀ j, j < N → w.cell? ⟨b, off + j, none⟩ = some (f j)
theorem Mk.below {w w' : World} {b off N : Nat} {f : Nat → Value} (h : Mk w b off N f) (hb : Below w.heap.size w w') : Mk w' b off N f := fun j hj => cell_below hb (h j hj)
theorem Mk.kept {S : Nat → Prop} {w w' : World} {b off N : Nat} {f : Nat → Value} (h : Mk w b off N f) (hk : Kept S w w') (hS : ¬ S b) : Mk w' b off N f := fun j hj => by
  rw [World.cell?_of_block (w := w) (a := ⟨b, off + j, none⟩) (hk b (World.block_lt_of_cell? w _ (h j hj)) hS)]
  exact h j hj
theorem Mk.step {w : World} {b off N k : Nat} {f : Nat → Value} (h : Mk w b off k f) (hA : Wr w b off N) (hk : k < N) {u : Value} (hu : u = f k) : Mk (w.setCell ⟨b, off + k, none⟩ u) b off (k + 1) f := fun j hj => by
  by_cases e : j = k
  · subst e
    obtain ⟨c, h1, _⟩ := hA j hk
    rw [cell_setCell_eq _ _ _ _ h1, hu]
  · rw [cell_setCell_ne _ _ _ _ _ (by omega)]
    exact h j (by omega)

end Go.Proofs.YtaimekaagmcmnaaGreat

/- Slices that the call owns, grown by append. -/
namespace Go.Proofs.YtaimekaagmcmnaaGreat
open Go.RowKit
set_option linter.unusedVariables false
set_option linter.unusedSimpArgs false

theorem own_below {w w' : World} {base : Nat} {e : TypeId} {size : Nat} {v : Value} {n : Nat} {xs : List Value} (h : w.ownsRow base e size v n xs) (hb : Below w.heap.size w w') : w'.ownsRow base e size v n xs := by
  refine ⟨h.1, ?_⟩
  rcases h.2 with h0 | ⟨g, cap, cur, hv, h1, h2, h3⟩
  · exact .inl h0
  · refine .inr ⟨g, cap, cur, hv, h1, ?_, h3⟩
    have hlt : g < w.heap.size := by
      rcases Nat.lt_or_ge g w.heap.size with hlt | hge
      · exact hlt
      · rw [Array.getElem?_eq_none hge] at h2; cases h2
    rw [hb.block g hlt, h2]
theorem own_kept {S : Nat → Prop} {w w' : World} {base : Nat} {e : TypeId} {size : Nat} {v : Value} {n : Nat} {xs : List Value} (h : w.ownsRow base e size v n xs) (hk : Kept S w w') (hS : ∀ g, v.ownBlock = some g → ¬ S g) : w'.ownsRow base e size v n xs := by
  refine ⟨h.1, ?_⟩
  rcases h.2 with h0 | ⟨g, cap, cur, hv, h1, h2, h3⟩
  · exact .inl h0
  · refine .inr ⟨g, cap, cur, hv, h1, ?_, h3⟩
    have hlt : g < w.heap.size := by
      rcases Nat.lt_or_ge g w.heap.size with hlt | hge
      · exact hlt
      · rw [Array.getElem?_eq_none hge] at h2; cases h2
    rw [hk g hlt (hS g (by rw [hv]; rfl)), h2]
theorem own_none {w : World} {base : Nat} {e : TypeId} {size : Nat} : w.ownsRow base e size (.slice none 0 0) 0 [] := ⟨by simp, .inl ⟨rfl, rfl⟩⟩
theorem own_cells {w : World} {base : Nat} {e : TypeId} {size : Nat} {v : Value} {n : Nat} {xs : List Value} (h : w.ownsRow base e size v n xs) (hn : 0 < n) :
    ∃ g cap, v = .slice (some ⟨g, 0, none⟩) n cap ∧ base ≤ g ∧ g < w.heap.size ∧ n ≤ cap ∧ cap ≤ 9223372036854775807 ∧ RowAt w g 0 xs ∧ Wr w g 0 (n * size) := by
  rcases h.2 with ⟨_, h0⟩ | ⟨g, cap, cur, hv, h1, h2, h3, h4, h5, h6⟩
  · omega
  have hlt : g < w.heap.size := by
    rcases Nat.lt_or_ge g w.heap.size with hlt | hge
    · exact hlt
    · rw [Array.getElem?_eq_none hge] at h2; cases h2
  refine ⟨g, cap, hv, h1, hlt, h3, by unfold maxLen at h4; omega, fun j c hc => ?_, fun j hj => ?_⟩
  · rw [cell_of_row w g _ cur e (0, 0) h2, Nat.zero_add, ← Array.getElem?_toList]
    rw [← h6, List.getElem?_take] at hc
    split at hc
    · exact hc
    · cases hc
  · have hjc : j < cur.size := by
      rw [h5]
      exact Nat.lt_of_lt_of_le hj (Nat.mul_le_mul_right _ h3)
    refine ⟨cur[j], ?_, ?_⟩
    · rw [cell_of_row w g _ cur e (0, 0) h2, Nat.zero_add, Array.getElem?_eq_getElem hjc]
    · simp [World.frozen?, h2]
theorem own_base {w : World} {base : Nat} {e : TypeId} {size : Nat} {v : Value} {n : Nat} {xs : List Value} (h : w.ownsRow base e size v n xs) : ∀ g, v.ownBlock = some g → base ≤ g ∧ g < w.heap.size := fun g hg => by
  rcases h.2 with ⟨rfl, _⟩ | ⟨g', cap, cur, rfl, h1, h2, h3⟩
  · cases hg
  · obtain rfl : g' = g := by simpa [Value.ownBlock] using hg
    refine ⟨h1, ?_⟩
    rcases Nat.lt_or_ge g' w.heap.size with hlt | hge
    · exact hlt
    · rw [Array.getElem?_eq_none hge] at h2; cases h2
theorem kept_grown {w w' : World} {row : Option Nat} (h : w.grownBy w' row) : Kept (fun k => some k = row) w w' := fun k h1 h2 => h.block k h1 h2
theorem below_grown {w w1 w' : World} {base : Nat} {e : TypeId} {size : Nat} {v : Value} {n : Nat} {xs : List Value} (h : Below base w w1) (hb : base ≤ w1.heap.size) (hO : w1.ownsRow base e size v n xs) (hg : w1.grownBy w' v.ownBlock) : Below base w w' :=
  h.grown hg hb (fun k hk => (own_base hO k hk).1)
theorem kept_of {w w1 w' : World} {row : Option Nat} (h : w1.grownBy w' row) (hb : Below w.heap.size w w1) : Kept (fun k => some k = row) w w' := (Kept.below hb).trans hb.size (kept_grown h)
theorem below_grown2 {w wr w1 w' : World} {base : Nat} {e : TypeId} {size : Nat} {v : Value} {n : Nat} {xs : List Value} (hg : w1.grownBy w' v.ownBlock) (hB : Below wr.heap.size wr w1) (h : Below base w wr) (hb : base ≤ wr.heap.size) (hO : wr.ownsRow base e size v n xs) : Below base w w' :=
  below_grown (h.trans (hB.mono hb)) (Nat.le_trans hb hB.size) (own_below hO hB) hg
theorem heap_alloc_new' (w : World) (o : Obj) (k : Nat) (hk : k = w.heap.size) : (w.alloc o).heap[k]? = some o := by subst hk; exact heap_alloc_new w o
theorem own_new (w : World) (cs : Array Value) (e : TypeId) (size n : Nat) (h : cs.size = n * size) (hm : n ≤ maxLen) (base : Nat) (hb : base ≤ w.heap.size) : (w.alloc (.cells cs e)).ownsRow base e size (.slice (some ⟨w.heap.size, 0, none⟩) n n) n cs.toList :=
  ⟨by simpa using h, .inr ⟨w.heap.size, n, cs, rfl, hb, heap_alloc_new w _, Nat.le_refl _, hm, h, by rw [← h]; exact List.take_of_length_le (by simp)⟩⟩

end Go.Proofs.YtaimekaagmcmnaaGreat

/- Ranges of numbers: within, Wrap. -/
namespace Go.Proofs.YtaimekaagmcmnaaGreat
open Go.RowKit
set_option linter.unusedVariables false
set_option linter.unusedSimpArgs false
attribute [local go_sem] Ext.cell

set_option maxHeartbeats 400000 in
theorem within_c (n lo hi : Int) (w : World) :
    Calls Tryz.prog 75 #[.int .i64 n, .int .i64 lo, .int .i64 hi] w fun e w' => e = .returned (.bool (decide (lo ≤ n ∧ n ≤ hi))) ∧ w = w' := by
  go_enter Tryz.func75, Tryz.ntmps75
  go_wp2
  all_goals (go_returns; refine ⟨?_, rfl⟩; simp_all)
  all_goals omega

end Go.Proofs.YtaimekaagmcmnaaGreat
