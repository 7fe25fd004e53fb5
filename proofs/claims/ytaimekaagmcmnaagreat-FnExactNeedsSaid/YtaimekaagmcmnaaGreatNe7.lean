/- Parts of the proof, merged: Pl0. -/
import Derived.Test.YtaimekaagmcmnaaGreatNe6
/- The program's lexer and parser where they meet no error, for the library's texts: plain. No program is walked here. -/
namespace Go.Proofs.YtaimekaagmcmnaaGreat
open Go.RowKit
set_option linter.unusedVariables false
set_option linter.unusedSimpArgs false

/-! The lexer. -/
def blankB (n : Int) : Bool := decide (n = 9) || decide (n = 10) || decide (n = 13) || decide (n = 32)
def preB (t l : List UInt8) : Bool := t.isPrefixOf l
def wordL (l : List UInt8) : List UInt8 := l.takeWhile fun c => wordB c.toNat
def numL01 (l : List UInt8) : Option Int := if l = [48] then some 0 else if l = [49] then some 1 else none
def sym2 : List (List UInt8) := [[45, 62], [60, 62], [60, 61], [58, 61], [58, 58]]
def sym1 : List UInt8 := [40, 41, 91, 93, 44, 59, 124, 61, 60, 43, 45, 42, 47, 37, 94, 33, 95]
def symL (l : List UInt8) : List UInt8 := match sym2.find? (fun t => preB t l) with
  | some t => t
  | none => match l with
    | [] => []
    | b :: _ => if sym1.contains b then [b] else []
def baL (l : List UInt8) : ByteArray := ⟨l.toArray⟩
def kwK (s : ByteArray) : Bool := kwB.any fun y => s.data.toList == y.data.toList
theorem isKw_kwK (s : ByteArray) : isKw s = kwK s := by unfold isKw kwK; congr 1; funext y; rw [ByteArray.toList_eq, ByteArray.toList_eq]
def nameK (s : ByteArray) : Bool := (wordOk s && lowB (firstB s)) && !kwK s
theorem nameOk_nameK (s : ByteArray) : nameOk s = nameK s := by unfold nameOk nameK; rw [isKw_kwK]
def tokL (k : Nat) : List UInt8 → Option (GTok × Nat)
  | [] => none
  | b :: r => let w := wordL (b :: r)
    if digB b.toNat then (numL01 w).map fun n => (⟨1, n, baL [], k⟩, w.length)
    else if lowB b.toNat || upB b.toNat then (if nameK (baL w) then some (⟨3, 0, baL w, k⟩, w.length) else if conOk (baL w) then none else if kwK (baL w) then some (⟨6, 0, baL w, k⟩, w.length) else none)
    else if b = 39 ∨ b = 34 then none
    else if symL (b :: r) = [] then none
    else some (⟨6, 0, baL (symL (b :: r)), k⟩, (symL (b :: r)).length)
def lexL : Nat → Nat → List UInt8 → List GTok → Option (List GTok)
  | 0, _, _, _ => none
  | f + 1, k, l, acc => match l with
    | [] => some acc
    | b :: r => if blankB b.toNat then lexL f (k + 1) r acc else if preB [40, 42] (b :: r) then none else match tokL k (b :: r) with
      | none => none
      | some (t, n) => lexL f (k + n) ((b :: r).drop n) (acc ++ [t])

/-! The parser: L the tokens, E the text's end. Each function gives what was read, the place behind, the pattern's names. -/
def bs (l : List Nat) : ByteArray := ⟨(l.map UInt8.ofNat).toArray⟩
def tokAt (L : List GTok) (E : Nat) (i : Nat) : GTok := (L[i]?).getD ⟨0, 0, bs [], E⟩
def sgn (t : GTok) : ByteArray := if t.kind = 6 then t.s else bs []
def qUnder : ByteArray := ⟨#[95]⟩
def qMinus : ByteArray := ⟨#[45]⟩
def qTrue : ByteArray := ⟨#[116, 114, 117, 101]⟩
def qFalse : ByteArray := ⟨#[102, 97, 108, 115, 101]⟩
def qOpen : ByteArray := ⟨#[40]⟩
def qClose : ByteArray := ⟨#[41]⟩
def qOpenB : ByteArray := ⟨#[91]⟩
def qCloseB : ByteArray := ⟨#[93]⟩
def qFun : ByteArray := ⟨#[102, 117, 110]⟩
def qLet : ByteArray := ⟨#[108, 101, 116]⟩
def qIf : ByteArray := ⟨#[105, 102]⟩
def qMatch : ByteArray := ⟨#[109, 97, 116, 99, 104]⟩
def qTry : ByteArray := ⟨#[116, 114, 121]⟩
def qRaise : ByteArray := ⟨#[114, 97, 105, 115, 101]⟩
def qRef : ByteArray := ⟨#[114, 101, 102]⟩
def qBang : ByteArray := ⟨#[33]⟩
def qArrow : ByteArray := ⟨#[45, 62]⟩
def qThen : ByteArray := ⟨#[116, 104, 101, 110]⟩
def qElse : ByteArray := ⟨#[101, 108, 115, 101]⟩
def qWith : ByteArray := ⟨#[119, 105, 116, 104]⟩
def qBar : ByteArray := ⟨#[124]⟩
def qEnd : ByteArray := ⟨#[101, 110, 100]⟩
def qSemi : ByteArray := ⟨#[59]⟩
def qComma : ByteArray := ⟨#[44]⟩
def qCons : ByteArray := ⟨#[58, 58]⟩
def qSet : ByteArray := ⟨#[58, 61]⟩
def qNil : ByteArray := ⟨#[91, 93]⟩
def qEq : ByteArray := ⟨#[61]⟩
def qNe : ByteArray := ⟨#[60, 62]⟩
def qLt : ByteArray := ⟨#[60]⟩
def qLe : ByteArray := ⟨#[60, 61]⟩
def qPlus : ByteArray := ⟨#[43]⟩
def qCat : ByteArray := ⟨#[94]⟩
def qStar : ByteArray := ⟨#[42]⟩
def qSlash : ByteArray := ⟨#[47]⟩
def qPct : ByteArray := ⟨#[37]⟩
def qType : ByteArray := ⟨#[116, 121, 112, 101]⟩
def eqS (a b : ByteArray) : Bool := a.data.toList == b.data.toList
theorem eqS_iff {a b : ByteArray} : eqS a b = true ↔ a = b := by
  unfold eqS
  rw [beq_iff_eq]
  constructor
  · intro h
    cases a; cases b
    simp only at h
    rw [Array.toList_inj.1 h]
  · intro h; rw [h]
theorem eqS_list (a b : ByteArray) : (a.toList == b.toList) = eqS a b := by unfold eqS; rw [ByteArray.toList_eq, ByteArray.toList_eq]
def anyS (l : List ByteArray) (s : ByteArray) : Bool := l.any fun y => eqS s y
theorem anyS_list (l : List ByteArray) (s : ByteArray) : (l.any fun y => s.toList == y.toList) = anyS l s := by unfold anyS; congr 1; funext y; exact eqS_list s y
def patSigns : List ByteArray := [qUnder, qMinus, qTrue, qFalse, qOpen, qOpenB]
def atomSigns : List ByteArray := [qTrue, qFalse, qOpen, qOpenB]
def exprSigns : List ByteArray := [qFun, qLet, qIf, qMatch, qTry, qRaise, qRef, qBang, qMinus]
def cmpSigns : List ByteArray := [qEq, qNe, qLt, qLe]
def sumSigns : List ByteArray := [qPlus, qMinus, qCat]
def mulSigns : List ByteArray := [qStar, qSlash, qPct]
def startsPatP (t : GTok) : Bool := decide (t.kind = 3 ∨ t.kind = 1 ∨ t.kind = 4) || anyS patSigns (sgn t)
def startsAtomP (t : GTok) : Bool := decide (t.kind = 1 ∨ t.kind = 2 ∨ t.kind = 3 ∨ t.kind = 4) || anyS atomSigns (sgn t)
def startsExprP (t : GTok) : Bool := startsAtomP t || anyS exprSigns (sgn t)

mutual
def szP : PxT → Nat
  | .mk _ _ _ ks => szPs ks + 1
def szPs : List PxT → Nat
  | [] => 0
  | k :: ks => szP k + szPs ks
end
def plP : Nat → List PxT → List Int
  | _, [] => []
  | nx, k :: ks => (nx : Int) :: plP (nx + szP k) ks
mutual
def layPxN : Nat → PxT → List GDNode
  | a, .mk kd n s ks => ⟨kd, n, s, plP (a + 1) ks⟩ :: layPxNs (a + 1) ks
def layPxNs : Nat → List PxT → List GDNode
  | _, [] => []
  | a, k :: ks => layPxN a k ++ layPxNs (a + szP k) ks
end
structure POut (α : Type) where
  t : α
  i : Nat
  ns : List ByteArray
structure PFs where
  expr : Nat → Nat → List ByteArray → Option (POut ExT)
  set : Nat → Nat → List ByteArray → Option (POut ExT)
  listed : Nat → Nat → List ByteArray → Option (POut ExT)
  chain : Nat → Nat → Nat → List ByteArray → Option (POut ExT)
  compared : Nat → Nat → List ByteArray → Option (POut ExT)
  unary : Nat → Nat → List ByteArray → Option (POut ExT)
  app : Nat → Nat → List ByteArray → Option (POut ExT)
  atom : Nat → Nat → List ByteArray → Option (POut ExT)
  mtch : Nat → Int → Nat → List ByteArray → Option (POut ExT)
  pat : Nat → Nat → List ByteArray → Option (POut PxT)
  patAtom : Nat → Nat → List ByteArray → Option (POut PxT)
section
variable (L : List GTok) (E : Nat)
def eatP (i : Nat) (s : ByteArray) : Option Nat := if eqS (sgn (tokAt L E i)) s then some (i + 1) else none
def wordP (i : Nat) (k : Int) : Option (ByteArray × Nat) := if (tokAt L E i).kind = k then some ((tokAt L E i).s, i + 1) else none
def exN (k a n : Int) (s : ByteArray) (ks : List ExT) : ExT := .mk k a n s ks []
def patParensB (R : PFs) (deep i : Nat) (ns : List ByteArray) : Option (POut PxT) :=
  if eqS (sgn (tokAt L E i)) qClose then some ⟨.mk 6 0 (bs []) [], i + 1, ns⟩
  else (R.pat (deep + 1) i ns).bind fun a =>
    if eqS (sgn (tokAt L E a.i)) qComma then (R.pat (deep + 1) (a.i + 1) a.ns).bind fun b => (eatP L E b.i qClose).map fun j => ⟨.mk 5 0 (bs []) [a.t, b.t], j, b.ns⟩
    else (eatP L E a.i qClose).map fun j => ⟨a.t, j, a.ns⟩
def patAtomB (R : PFs) (deep i : Nat) (ns : List ByteArray) : Option (POut PxT) :=
  let t := tokAt L E i
  if startsPatP t = false then none
  else if t.kind = 3 then (if anyS ns t.s then none else some ⟨.mk 2 0 t.s [], i + 1, ns ++ [t.s]⟩)
  else if t.kind = 1 then some ⟨.mk 3 t.n (bs []) [], i + 1, ns⟩
  else if t.kind = 4 then none
  else if eqS t.s qUnder then some ⟨.mk 1 0 (bs []) [], i + 1, ns⟩
  else if eqS t.s qMinus then none
  else if eqS t.s qOpenB then (eatP L E (i + 1) qCloseB).map fun j => ⟨.mk 4 0 qNil [], j, ns⟩
  else if eqS t.s qOpen then patParensB L E R deep (i + 1) ns
  else some ⟨.mk 4 0 t.s [], i + 1, ns⟩
def patB (R : PFs) (deep i : Nat) (ns : List ByteArray) : Option (POut PxT) :=
  if startsPatP (tokAt L E i) = false then none
  else if 100 < deep then none
  else (R.patAtom deep i ns).bind fun a =>
    if eqS (sgn (tokAt L E a.i)) qCons then (R.pat (deep + 1) (a.i + 1) a.ns).bind fun b => some ⟨.mk 4 0 qCons [.mk 5 0 (bs []) [a.t, b.t]], b.i, b.ns⟩
    else some a

def atomB (R : PFs) (deep i : Nat) (ns : List ByteArray) : Option (POut ExT) :=
  let t := tokAt L E i
  if startsAtomP t = false then none
  else if t.kind = 1 then some ⟨exN 1 t.at_ t.n (bs []) [], i + 1, ns⟩
  else if t.kind = 2 then none
  else if t.kind = 3 then some ⟨exN 3 t.at_ 0 t.s [], i + 1, ns⟩
  else if t.kind = 4 then none
  else if eqS t.s qOpenB then (eatP L E (i + 1) qCloseB).map fun j => ⟨exN 4 t.at_ 0 qNil [], j, ns⟩
  else if eqS t.s qTrue || eqS t.s qFalse then some ⟨exN 4 t.at_ 0 t.s [], i + 1, ns⟩
  else if eqS (sgn (tokAt L E (i + 1))) qClose then some ⟨exN 12 t.at_ 0 (bs []) [], i + 1 + 1, ns⟩
  else (R.expr (deep + 1) (i + 1) ns).bind fun a =>
    if eqS (sgn (tokAt L E a.i)) qComma then (R.expr (deep + 1) (a.i + 1) a.ns).bind fun b => (eatP L E b.i qClose).map fun j => ⟨exN 11 t.at_ 0 (bs []) [a.t, b.t], j, b.ns⟩
    else (eatP L E a.i qClose).map fun j => ⟨a.t, j, a.ns⟩
def appL (R : PFs) (deep : Nat) : Nat → POut ExT → Option (POut ExT)
  | 0, _ => none
  | g + 1, a => if startsAtomP (tokAt L E a.i) then (R.atom deep a.i a.ns).bind fun b => appL R deep g ⟨exN 6 (tokAt L E a.i).at_ 0 (bs []) [a.t, b.t], b.i, b.ns⟩ else some a
def appB (R : PFs) (deep i : Nat) (ns : List ByteArray) : Option (POut ExT) :=
  if (tokAt L E i).kind = 4 then none else (R.atom deep i ns).bind fun a => appL L E R deep 100 a
def unaryB (R : PFs) (deep i : Nat) (ns : List ByteArray) : Option (POut ExT) :=
  let s := sgn (tokAt L E i)
  if eqS s qRaise || eqS s qRef || eqS s qBang || eqS s qMinus then none else R.app deep i ns
def levelSigns (level : Nat) : List ByteArray := if level = 1 then mulSigns else sumSigns
def chainL (R : PFs) (deep level : Nat) : Nat → POut ExT → Option (POut ExT)
  | 0, _ => none
  | g + 1, a => if anyS (levelSigns level) (sgn (tokAt L E a.i)) then (R.chain deep (level + 1) (a.i + 1) a.ns).bind fun b => chainL R deep level g ⟨exN 10 (tokAt L E a.i).at_ 0 (tokAt L E a.i).s [a.t, b.t], b.i, b.ns⟩ else some a
def chainB (R : PFs) (deep level i : Nat) (ns : List ByteArray) : Option (POut ExT) :=
  if level = 2 then R.unary deep i ns else (R.chain deep (level + 1) i ns).bind fun a => chainL L E R deep level 100 a
def listedB (R : PFs) (deep i : Nat) (ns : List ByteArray) : Option (POut ExT) :=
  (R.chain deep 0 i ns).bind fun a =>
    if eqS (sgn (tokAt L E a.i)) qCons then (R.listed deep (a.i + 1) a.ns).bind fun b => some ⟨exN 4 (tokAt L E a.i).at_ 0 qCons [exN 11 (tokAt L E a.i).at_ 0 (bs []) [a.t, b.t]], b.i, b.ns⟩ else some a
def comparedB (R : PFs) (deep i : Nat) (ns : List ByteArray) : Option (POut ExT) :=
  (R.listed deep i ns).bind fun a =>
    if anyS cmpSigns (sgn (tokAt L E a.i)) then (R.listed deep (a.i + 1) a.ns).bind fun b => some ⟨exN 10 (tokAt L E a.i).at_ 0 (tokAt L E a.i).s [a.t, b.t], b.i, b.ns⟩ else some a
def setB (R : PFs) (deep i : Nat) (ns : List ByteArray) : Option (POut ExT) :=
  (R.compared deep i ns).bind fun a => if eqS (sgn (tokAt L E a.i)) qSet then none else some a
def exprB (R : PFs) (deep i : Nat) (ns : List ByteArray) : Option (POut ExT) :=
  let t := tokAt L E i
  let s := sgn t
  if startsExprP t = false then none
  else if 100 < deep then none
  else if eqS s qFun then (wordP L E (i + 1) 3).bind fun n => (eatP L E n.2 qArrow).bind fun j => (R.expr (deep + 1) j ns).bind fun a => some ⟨exN 5 t.at_ 0 n.1 [a.t], a.i, a.ns⟩
  else if eqS s qLet then none
  else if eqS s qIf then (R.expr (deep + 1) (i + 1) ns).bind fun a => (eatP L E a.i qThen).bind fun j => (R.expr (deep + 1) j a.ns).bind fun b => (eatP L E b.i qElse).bind fun k => (R.expr (deep + 1) k b.ns).bind fun c => some ⟨exN 9 t.at_ 0 (bs []) [a.t, b.t, c.t], c.i, c.ns⟩
  else if eqS s qMatch then R.mtch deep t.at_ (i + 1) ns
  else if eqS s qTry then none
  else (R.set deep i ns).bind fun a =>
    if eqS (sgn (tokAt L E a.i)) qSemi then (R.expr (deep + 1) (a.i + 1) a.ns).bind fun b => some ⟨exN 19 (tokAt L E a.i).at_ 0 (bs []) [a.t, b.t], b.i, b.ns⟩ else some a
def fromD (x : GDNode) : GPNode := ⟨x.kind, x.n, x.s, x.kids⟩
def layPx : PxT → GPat := fun t => ⟨(layPxN 0 t).map fromD⟩
structure MOut where
  kids : List ExT
  pats : List GPat
  i : Nat
  ns : List ByteArray
def armsL (R : PFs) (deep : Nat) : Nat → MOut → Option MOut
  | 0, _ => none
  | g + 1, m => (R.pat 0 (if m.pats.length = 0 then m.i else m.i + 1) []).bind fun q => (eatP L E q.i qArrow).bind fun j => (R.expr (deep + 1) j q.ns).bind fun b =>
      if eqS (sgn (tokAt L E b.i)) qBar then armsL R deep g ⟨m.kids ++ [b.t], m.pats ++ [layPx q.t], b.i, b.ns⟩ else some ⟨m.kids ++ [b.t], m.pats ++ [layPx q.t], b.i, b.ns⟩
def pfs0 : PFs := ⟨fun _ _ _ => none, fun _ _ _ => none, fun _ _ _ => none, fun _ _ _ _ => none, fun _ _ _ => none, fun _ _ _ => none, fun _ _ _ => none, fun _ _ _ => none, fun _ _ _ _ => none, fun _ _ _ => none, fun _ _ _ => none⟩
end
end Go.Proofs.YtaimekaagmcmnaaGreat
