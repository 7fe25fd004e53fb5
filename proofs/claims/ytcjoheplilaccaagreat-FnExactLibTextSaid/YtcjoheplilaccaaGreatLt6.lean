/- Parts of the proof, merged: Name, Name2, Pl0. -/
import Derived.Test.YtcjoheplilaccaaGreatLt5
/- Names: keywords, slices.Contains at []string, NameOk of both. -/
namespace Go.Proofs.YtcjoheplilaccaaGreat
open Go.RowKit
set_option linter.unusedVariables false
set_option linter.unusedSimpArgs false
attribute [local go_sem] Ext.cell

set_option maxRecDepth 100000 in
set_option maxHeartbeats 4000000 in
theorem indexS_c (xs : List ByteArray) (v : ByteArray) (lo : Nat) (u : Value) (w : World) (hu : Sl StrR 1 lo w u xs) :
    Calls Tryz.prog 27 #[u, .string v] w (IdxPost (fun y => v.toList == y.toList) xs w) := by
  obtain ⟨ua, uc, rfl, ul, um, h0⟩ := hu
  replace h0 := Lib.hid h0
  obtain ⟨m, hm⟩ : ∃ m, m = xs.length := ⟨_, rfl⟩
  rw [← hm] at ul ⊢
  replace hm := Lib.hid hm
  go_enter Tryz.func27, Tryz.ntmps27
  go_wp2_with fail
  go_loopw [8] (fun i wr => ∃ k : Nat, k ≤ m ∧ i = .int .i64 k ∧ Below w.heap.size w wr ∧ Hid (∀ y ∈ xs.take k, (v.toList == y.toList) = false)) (fun i _ => m - (intOf i).toNat)
  case atStart => exact ⟨0, by omega, rfl, Below.refl _ _, fun y hy => by simp at hy⟩
  case round =>
    obtain ⟨k, hk, rfl, hw, hF⟩ := hrel
    by_cases hlt : k < m
    · obtain ⟨b1, o1, x, r, _, rfl, P1, ⟨rfl, -⟩, r1⟩ := (h0.out.below StrR.good hw).get hm hlt
      have e0 : wr.cell? ⟨b1, o1 + k, none⟩ = some (.string x) := by simpa using r1 0 _ rfl
      clear r1
      cases hq : (v.toList == x.toList) with
      | true =>
        go_wp2_with fail
        go_returns
        exact ⟨k, rfl, by
          have : xs.any (fun y => v.toList == y.toList) = true := List.any_eq_true.2 ⟨x, List.mem_of_getElem? P1.out, by simpa using hq⟩
          rw [this]; simp, hw⟩
      | false =>
        have hq' := Lib.hid hq
        go_wp2_with fail
        go_roundw
        case rel => exact ⟨k + 1, by omega, by go_num, hw, by
          show ∀ y ∈ xs.take (k + 1), (v.toList == y.toList) = false
          rw [take_snoc' P1.out]
          intro y hy
          rcases List.mem_append.1 hy with h | h
          · exact hF.out y h
          · simp at h; subst h; exact hq'.out⟩
        case measure => simp [intOf]; omega
    · obtain rfl : k = m := by omega
      go_wp2_with fail
      go_returns
      exact ⟨-1, rfl, by
        have hF := hF.out
        rw [take_full hm] at hF
        have : xs.any (fun y => v.toList == y.toList) = false := List.any_eq_false.2 fun y hy => by rw [hF y hy]; simp
        rw [this]; simp, hw⟩

theorem containsS_c (xs : List ByteArray) (v : ByteArray) (lo : Nat) (u : Value) (w : World) (hu : Sl StrR 1 lo w u xs) :
    Calls Tryz.prog 18 #[u, .string v] w fun e w' => e = .returned (.bool (xs.any fun y => v.toList == y.toList)) ∧ Below w.heap.size w w' := by
  have hc := indexS_c xs v lo u w hu
  replace hc : Calls Tryz.prog 27 #[u, .string v] w fun e w' => ∃ n : Int, e = .returned (.int .i64 n) ∧ decide (0 ≤ n) = (xs.any fun y => v.toList == y.toList) ∧ Below w.heap.size w w' := hc
  generalize (xs.any fun y => v.toList == y.toList) = q at *
  obtain ⟨ua, uc, rfl⟩ := hu.form
  clear hu
  go_enter Tryz.func18, Tryz.ntmps18
  go_wp2_with (go_at_call 27; refine hc.mono ?_; rintro e w1 ⟨n, rfl, hn, hb⟩)
  go_returns
  exact ⟨rfl, hb⟩

/-- The words that are kept. -/
def kwB : List ByteArray := [⟨#[108, 101, 116]⟩, ⟨#[114, 101, 99]⟩, ⟨#[105, 110]⟩, ⟨#[102, 117, 110]⟩, ⟨#[105, 102]⟩, ⟨#[116, 104, 101, 110]⟩, ⟨#[101, 108, 115, 101]⟩, ⟨#[109, 97, 116, 99, 104]⟩, ⟨#[119, 105, 116, 104]⟩, ⟨#[101, 110, 100]⟩, ⟨#[116, 121, 112, 101]⟩, ⟨#[111, 102]⟩, ⟨#[114, 97, 105, 115, 101]⟩, ⟨#[116, 114, 121]⟩, ⟨#[114, 101, 102]⟩, ⟨#[116, 114, 117, 101]⟩, ⟨#[102, 97, 108, 115, 101]⟩]
def isKw (s : ByteArray) : Bool := kwB.any fun y => s.toList == y.toList
theorem kw_row (w : World) (T : TypeId) : RowAt (w.alloc (.cells (kwB.map Value.string).toArray T)) w.heap.size 0 (kwB.map Value.string) := by
  have := RowAt.box w (kwB.map Value.string).toArray T
  simpa using this
theorem kw_ok : ∀ y ∈ kwB, StrOk y := by
  intro y hy
  have : y.size ≤ 5 := by
    revert y
    decide
  unfold StrOk
  omega
theorem row_strs {w : World} {g : Nat} {xs : List ByteArray} (h : RowAt w g 0 (xs.map Value.string)) (hok : ∀ y ∈ xs, StrOk y) (cap : Nat) (hc : xs.length ≤ cap) (hm : cap ≤ 9223372036854775807) : Sl StrR 1 g w (.slice (some ⟨g, 0, none⟩) xs.length cap) xs :=
  ⟨_, cap, rfl, hc, hm, fun _ => ⟨g, 0, Nat.le_refl _, rfl, fun i x hx => ⟨[.string x], ⟨rfl, hok x (List.mem_of_getElem? hx)⟩, fun j c hj => by
    cases j with
    | zero =>
      simp at hj; subst hj
      have := h i (.string x) (by rw [List.getElem?_map, hx]; rfl)
      simpa using this
    | succ j => simp at hj⟩⟩⟩

set_option maxRecDepth 100000 in
set_option maxHeartbeats 4000000 in
theorem keywords_c (w : World) : Calls Tryz.prog 73 #[] w fun e w' => ∃ g, e = .returned (.slice (some ⟨g, 0, none⟩) 17 17) ∧ Sl StrR 1 0 w' (.slice (some ⟨g, 0, none⟩) 17 17) kwB ∧ Below w.heap.size w w' := by
  go_enter Tryz.func73, Tryz.ntmps73
  go_wp2_with fail
  go_returns
  refine ⟨w.heap.size, rfl, ?_, by go_grown⟩
  exact (row_strs (kw_row w 9) kw_ok 17 (by decide) (by omega)).mono StrR.good (Nat.zero_le _)

end Go.Proofs.YtcjoheplilaccaaGreat

/- NameOk of both. -/
namespace Go.Proofs.YtcjoheplilaccaaGreat
open Go.RowKit
set_option linter.unusedVariables false
set_option linter.unusedSimpArgs false
attribute [local go_sem] Ext.cell

def nameOk (s : ByteArray) : Bool := (wordOk s && lowB (firstB s)) && !isKw s
theorem word01_one (s : ByteArray) : word01 s 1 = (wordOk s && lowB (firstB s)) := by
  unfold word01 wordOk
  rw [clsB_one]
  cases decide (1 ≤ (s.size : Int) ∧ (s.size : Int) ≤ 12) <;> cases lowB (firstB s) <;> cases allW s.data.toList <;> rfl

set_option maxRecDepth 100000 in
set_option maxHeartbeats 4000000 in
theorem impl_NameOk_c (s : ByteArray) (hs : StrOk s) (w : World) : Calls Tryz.prog 71 #[.string s] w fun e w' => e = .returned (.bool (nameOk s)) ∧ Below w.heap.size w w' := by
  have c1 := fun W => wordOk_c s hs W
  unfold StrOk at hs
  have hk := fun u W (hW : Sl StrR 1 0 W u kwB) => containsS_c kwB s 0 u W hW
  unfold nameOk
  cases hw : wordOk s with
  | false =>
    rw [hw] at c1
    clear hw hk
    go_enter Tryz.func71, Tryz.ntmps71
    go_wp2_with (go_at_call 95; ((with_reducible refine (c1 _).mono ?_); rintro e w1 ⟨rfl, rfl⟩))
    go_returns
    exact ⟨rfl, Below.refl _ _⟩
  | true =>
    rw [hw] at c1
    have h0 : 0 < s.size := by unfold wordOk at hw; simp at hw; omega
    have h0' : (0 : Int) < s.size := by omega
    have hf : firstB s = (s[0]'h0).toNat := by unfold firstB; rw [dif_pos h0]
    rw [hf]
    clear hw hf
    have c2 := fun W => isLower_c ((s[0]'h0).toNat : Int) W
    generalize lowB ((s[0]'h0).toNat : Int) = lb at *
    have e : (kwB.any fun y => s.toList == y.toList) = isKw s := rfl
    rw [e] at hk
    clear e
    generalize isKw s = kw at *
    replace hk := Lib.hid hk
    cases lb with
    | false =>
      go_enter Tryz.func71, Tryz.ntmps71
      go_wp2_with (first | (go_at_call 95; ((with_reducible refine (c1 _).mono ?_); rintro e w1 ⟨rfl, rfl⟩)) | (go_at_call 69; ((with_reducible refine (c2 _).mono ?_); rintro e w1 ⟨rfl, rfl⟩)))
      go_returns
      exact ⟨rfl, Below.refl _ _⟩
    | true =>
      go_enter Tryz.func71, Tryz.ntmps71
      go_wp2_with (first | (go_at_call 95; ((with_reducible refine (c1 _).mono ?_); rintro e w1 ⟨rfl, rfl⟩)) | (go_at_call 69; ((with_reducible refine (c2 _).mono ?_); rintro e w1 ⟨rfl, rfl⟩)) | (go_at_call 73; ((with_reducible refine (keywords_c _).mono ?_); rintro e w1 ⟨g, rfl, hS, hb⟩)) | (go_at_call 18; ((with_reducible refine (hk.out _ _ hS).mono ?_); rintro e w2 ⟨rfl, hb2⟩)))
      go_returns
      exact ⟨rfl, hb.trans (hb2.mono hb.size)⟩

end Go.Proofs.YtcjoheplilaccaaGreat

/- The program's lexer and parser where they meet no error, for the library's texts: plain. No program is walked here. -/
namespace Go.Proofs.YtcjoheplilaccaaGreat
open Go.RowKit
set_option linter.unusedVariables false
set_option linter.unusedSimpArgs false

/-! The lexer. -/
def blankB (n : Int) : Bool := decide (n = 9) || decide (n = 10) || decide (n = 13) || decide (n = 32)
def preB (t l : List UInt8) : Bool := t.isPrefixOf l
def wordL (l : List UInt8) : List UInt8 := l.takeWhile fun c => wordB c.toNat
def numL01 (l : List UInt8) : Option Int := if l = [48] then some 0 else if l = [49] then some 1 else none
def sym2 : List (List UInt8) := [[45, 62], [60, 62], [60, 61], [58, 61], [58, 58]]
def sym1 : List UInt8 := [40, 41, 91, 93, 44, 59, 124, 61, 60, 43, 45, 42, 47, 37, 94, 33, 95]
def symL (l : List UInt8) : List UInt8 := match sym2.find? (fun t => preB t l) with
  | some t => t
  | none => match l with
    | [] => []
    | b :: _ => if sym1.contains b then [b] else []
def baL (l : List UInt8) : ByteArray := ⟨l.toArray⟩
def kwK (s : ByteArray) : Bool := kwB.any fun y => s.data.toList == y.data.toList
theorem isKw_kwK (s : ByteArray) : isKw s = kwK s := by unfold isKw kwK; congr 1; funext y; rw [ByteArray.toList_eq, ByteArray.toList_eq]
def nameK (s : ByteArray) : Bool := (wordOk s && lowB (firstB s)) && !kwK s
theorem nameOk_nameK (s : ByteArray) : nameOk s = nameK s := by unfold nameOk nameK; rw [isKw_kwK]
/-- The token at the head of the rest l of a text, which stands at place k; how long it is. -/
def tokL (k : Nat) : List UInt8 → Option (GTok × Nat)
  | [] => none
  | b :: r => let w := wordL (b :: r)
    if digB b.toNat then (numL01 w).map fun n => (⟨1, n, baL [], k⟩, w.length)
    else if lowB b.toNat || upB b.toNat then (if nameK (baL w) then some (⟨3, 0, baL w, k⟩, w.length) else if conOk (baL w) then none else if kwK (baL w) then some (⟨6, 0, baL w, k⟩, w.length) else none)
    else if b = 39 ∨ b = 34 then none
    else if symL (b :: r) = [] then none
    else some (⟨6, 0, baL (symL (b :: r)), k⟩, (symL (b :: r)).length)
def lexL : Nat → Nat → List UInt8 → List GTok → Option (List GTok)
  | 0, _, _, _ => none
  | f + 1, k, l, acc => match l with
    | [] => some acc
    | b :: r => if blankB b.toNat then lexL f (k + 1) r acc else if preB [40, 42] (b :: r) then none else match tokL k (b :: r) with
      | none => none
      | some (t, n) => lexL f (k + n) ((b :: r).drop n) (acc ++ [t])

/-! The parser: L the tokens, E the text's end. Each function gives what was read, the place behind, the pattern's names. -/
def bs (l : List Nat) : ByteArray := ⟨(l.map UInt8.ofNat).toArray⟩
def tokAt (L : List GTok) (E : Nat) (i : Nat) : GTok := (L[i]?).getD ⟨0, 0, bs [], E⟩
def sgn (t : GTok) : ByteArray := if t.kind = 6 then t.s else bs []
def qUnder : ByteArray := ⟨#[95]⟩
def qMinus : ByteArray := ⟨#[45]⟩
def qTrue : ByteArray := ⟨#[116, 114, 117, 101]⟩
def qFalse : ByteArray := ⟨#[102, 97, 108, 115, 101]⟩
def qOpen : ByteArray := ⟨#[40]⟩
def qClose : ByteArray := ⟨#[41]⟩
def qOpenB : ByteArray := ⟨#[91]⟩
def qCloseB : ByteArray := ⟨#[93]⟩
def qFun : ByteArray := ⟨#[102, 117, 110]⟩
def qLet : ByteArray := ⟨#[108, 101, 116]⟩
def qIf : ByteArray := ⟨#[105, 102]⟩
def qMatch : ByteArray := ⟨#[109, 97, 116, 99, 104]⟩
def qTry : ByteArray := ⟨#[116, 114, 121]⟩
def qRaise : ByteArray := ⟨#[114, 97, 105, 115, 101]⟩
def qRef : ByteArray := ⟨#[114, 101, 102]⟩
def qBang : ByteArray := ⟨#[33]⟩
def qArrow : ByteArray := ⟨#[45, 62]⟩
def qThen : ByteArray := ⟨#[116, 104, 101, 110]⟩
def qElse : ByteArray := ⟨#[101, 108, 115, 101]⟩
def qWith : ByteArray := ⟨#[119, 105, 116, 104]⟩
def qBar : ByteArray := ⟨#[124]⟩
def qEnd : ByteArray := ⟨#[101, 110, 100]⟩
def qSemi : ByteArray := ⟨#[59]⟩
def qComma : ByteArray := ⟨#[44]⟩
def qCons : ByteArray := ⟨#[58, 58]⟩
def qSet : ByteArray := ⟨#[58, 61]⟩
def qNil : ByteArray := ⟨#[91, 93]⟩
def qEq : ByteArray := ⟨#[61]⟩
def qNe : ByteArray := ⟨#[60, 62]⟩
def qLt : ByteArray := ⟨#[60]⟩
def qLe : ByteArray := ⟨#[60, 61]⟩
def qPlus : ByteArray := ⟨#[43]⟩
def qCat : ByteArray := ⟨#[94]⟩
def qStar : ByteArray := ⟨#[42]⟩
def qSlash : ByteArray := ⟨#[47]⟩
def qPct : ByteArray := ⟨#[37]⟩
def qType : ByteArray := ⟨#[116, 121, 112, 101]⟩
def eqS (a b : ByteArray) : Bool := a.data.toList == b.data.toList
theorem eqS_iff {a b : ByteArray} : eqS a b = true ↔ a = b := by
  unfold eqS
  rw [beq_iff_eq]
  constructor
  · intro h
    cases a; cases b
    simp only at h
    rw [Array.toList_inj.1 h]
  · intro h; rw [h]
theorem eqS_ne {a b : ByteArray} : eqS a b = false ↔ a ≠ b := by rw [← Bool.not_eq_true, eqS_iff]
theorem eqS_list (a b : ByteArray) : (a.toList == b.toList) = eqS a b := by unfold eqS; rw [ByteArray.toList_eq, ByteArray.toList_eq]
def anyS (l : List ByteArray) (s : ByteArray) : Bool := l.any fun y => eqS s y
theorem anyS_list (l : List ByteArray) (s : ByteArray) : (l.any fun y => s.toList == y.toList) = anyS l s := by unfold anyS; congr 1; funext y; exact eqS_list s y
def patSigns : List ByteArray := [qUnder, qMinus, qTrue, qFalse, qOpen, qOpenB]
def atomSigns : List ByteArray := [qTrue, qFalse, qOpen, qOpenB]
def exprSigns : List ByteArray := [qFun, qLet, qIf, qMatch, qTry, qRaise, qRef, qBang, qMinus]
def cmpSigns : List ByteArray := [qEq, qNe, qLt, qLe]
def sumSigns : List ByteArray := [qPlus, qMinus, qCat]
def mulSigns : List ByteArray := [qStar, qSlash, qPct]
def startsPatP (t : GTok) : Bool := decide (t.kind = 3 ∨ t.kind = 1 ∨ t.kind = 4) || anyS patSigns (sgn t)
def startsAtomP (t : GTok) : Bool := decide (t.kind = 1 ∨ t.kind = 2 ∨ t.kind = 3 ∨ t.kind = 4) || anyS atomSigns (sgn t)
def startsExprP (t : GTok) : Bool := startsAtomP t || anyS exprSigns (sgn t)

mutual
def szP : PxT → Nat
  | .mk _ _ _ ks => szPs ks + 1
def szPs : List PxT → Nat
  | [] => 0
  | k :: ks => szP k + szPs ks
end
def plP : Nat → List PxT → List Int
  | _, [] => []
  | nx, k :: ks => (nx : Int) :: plP (nx + szP k) ks
mutual
def layPxN : Nat → PxT → List GDNode
  | a, .mk kd n s ks => ⟨kd, n, s, plP (a + 1) ks⟩ :: layPxNs (a + 1) ks
def layPxNs : Nat → List PxT → List GDNode
  | _, [] => []
  | a, k :: ks => layPxN a k ++ layPxNs (a + szP k) ks
end
/-- What a step of the parser gives: a tree, or a pattern's tree; the place behind; the names met. -/
structure POut (α : Type) where
  t : α
  i : Nat
  ns : List ByteArray
/-- The functions of one level deeper. -/
structure PFs where
  expr : Nat → Nat → List ByteArray → Option (POut ExT)
  set : Nat → Nat → List ByteArray → Option (POut ExT)
  listed : Nat → Nat → List ByteArray → Option (POut ExT)
  chain : Nat → Nat → Nat → List ByteArray → Option (POut ExT)
  compared : Nat → Nat → List ByteArray → Option (POut ExT)
  unary : Nat → Nat → List ByteArray → Option (POut ExT)
  app : Nat → Nat → List ByteArray → Option (POut ExT)
  atom : Nat → Nat → List ByteArray → Option (POut ExT)
  mtch : Nat → Int → Nat → List ByteArray → Option (POut ExT)
  pat : Nat → Nat → List ByteArray → Option (POut PxT)
  patAtom : Nat → Nat → List ByteArray → Option (POut PxT)
section
variable (L : List GTok) (E : Nat)
def eatP (i : Nat) (s : ByteArray) : Option Nat := if eqS (sgn (tokAt L E i)) s then some (i + 1) else none
def wordP (i : Nat) (k : Int) : Option (ByteArray × Nat) := if (tokAt L E i).kind = k then some ((tokAt L E i).s, i + 1) else none
def exN (k a n : Int) (s : ByteArray) (ks : List ExT) : ExT := .mk k a n s ks []
def patParensB (R : PFs) (deep i : Nat) (ns : List ByteArray) : Option (POut PxT) :=
  if eqS (sgn (tokAt L E i)) qClose then some ⟨.mk 6 0 (bs []) [], i + 1, ns⟩
  else (R.pat (deep + 1) i ns).bind fun a =>
    if eqS (sgn (tokAt L E a.i)) qComma then (R.pat (deep + 1) (a.i + 1) a.ns).bind fun b => (eatP L E b.i qClose).map fun j => ⟨.mk 5 0 (bs []) [a.t, b.t], j, b.ns⟩
    else (eatP L E a.i qClose).map fun j => ⟨a.t, j, a.ns⟩
def patAtomB (R : PFs) (deep i : Nat) (ns : List ByteArray) : Option (POut PxT) :=
  let t := tokAt L E i
  if startsPatP t = false then none
  else if t.kind = 3 then (if anyS ns t.s then none else some ⟨.mk 2 0 t.s [], i + 1, ns ++ [t.s]⟩)
  else if t.kind = 1 then some ⟨.mk 3 t.n (bs []) [], i + 1, ns⟩
  else if t.kind = 4 then none
  else if eqS t.s qUnder then some ⟨.mk 1 0 (bs []) [], i + 1, ns⟩
  else if eqS t.s qMinus then none
  else if eqS t.s qOpenB then (eatP L E (i + 1) qCloseB).map fun j => ⟨.mk 4 0 qNil [], j, ns⟩
  else if eqS t.s qOpen then patParensB L E R deep (i + 1) ns
  else some ⟨.mk 4 0 t.s [], i + 1, ns⟩
def patB (R : PFs) (deep i : Nat) (ns : List ByteArray) : Option (POut PxT) :=
  if startsPatP (tokAt L E i) = false then none
  else if 100 < deep then none
  else (R.patAtom deep i ns).bind fun a =>
    if eqS (sgn (tokAt L E a.i)) qCons then (R.pat (deep + 1) (a.i + 1) a.ns).bind fun b => some ⟨.mk 4 0 qCons [.mk 5 0 (bs []) [a.t, b.t]], b.i, b.ns⟩
    else some a

def atomB (R : PFs) (deep i : Nat) (ns : List ByteArray) : Option (POut ExT) :=
  let t := tokAt L E i
  if startsAtomP t = false then none
  else if t.kind = 1 then some ⟨exN 1 t.at_ t.n (bs []) [], i + 1, ns⟩
  else if t.kind = 2 then none
  else if t.kind = 3 then some ⟨exN 3 t.at_ 0 t.s [], i + 1, ns⟩
  else if t.kind = 4 then none
  else if eqS t.s qOpenB then (eatP L E (i + 1) qCloseB).map fun j => ⟨exN 4 t.at_ 0 qNil [], j, ns⟩
  else if eqS t.s qTrue || eqS t.s qFalse then some ⟨exN 4 t.at_ 0 t.s [], i + 1, ns⟩
  else if eqS (sgn (tokAt L E (i + 1))) qClose then some ⟨exN 12 t.at_ 0 (bs []) [], i + 1 + 1, ns⟩
  else (R.expr (deep + 1) (i + 1) ns).bind fun a =>
    if eqS (sgn (tokAt L E a.i)) qComma then (R.expr (deep + 1) (a.i + 1) a.ns).bind fun b => (eatP L E b.i qClose).map fun j => ⟨exN 11 t.at_ 0 (bs []) [a.t, b.t], j, b.ns⟩
    else (eatP L E a.i qClose).map fun j => ⟨a.t, j, a.ns⟩
def appL (R : PFs) (deep : Nat) : Nat → POut ExT → Option (POut ExT)
  | 0, _ => none
  | g + 1, a => if startsAtomP (tokAt L E a.i) then (R.atom deep a.i a.ns).bind fun b => appL R deep g ⟨exN 6 (tokAt L E a.i).at_ 0 (bs []) [a.t, b.t], b.i, b.ns⟩ else some a
def appB (R : PFs) (deep i : Nat) (ns : List ByteArray) : Option (POut ExT) :=
  if (tokAt L E i).kind = 4 then none else (R.atom deep i ns).bind fun a => appL L E R deep 100 a
def unaryB (R : PFs) (deep i : Nat) (ns : List ByteArray) : Option (POut ExT) :=
  let s := sgn (tokAt L E i)
  if eqS s qRaise || eqS s qRef || eqS s qBang || eqS s qMinus then none else R.app deep i ns
def levelSigns (level : Nat) : List ByteArray := if level = 1 then mulSigns else sumSigns
def chainL (R : PFs) (deep level : Nat) : Nat → POut ExT → Option (POut ExT)
  | 0, _ => none
  | g + 1, a => if anyS (levelSigns level) (sgn (tokAt L E a.i)) then (R.chain deep (level + 1) (a.i + 1) a.ns).bind fun b => chainL R deep level g ⟨exN 10 (tokAt L E a.i).at_ 0 (tokAt L E a.i).s [a.t, b.t], b.i, b.ns⟩ else some a
def chainB (R : PFs) (deep level i : Nat) (ns : List ByteArray) : Option (POut ExT) :=
  if level = 2 then R.unary deep i ns else (R.chain deep (level + 1) i ns).bind fun a => chainL L E R deep level 100 a
def listedB (R : PFs) (deep i : Nat) (ns : List ByteArray) : Option (POut ExT) :=
  (R.chain deep 0 i ns).bind fun a =>
    if eqS (sgn (tokAt L E a.i)) qCons then (R.listed deep (a.i + 1) a.ns).bind fun b => some ⟨exN 4 (tokAt L E a.i).at_ 0 qCons [exN 11 (tokAt L E a.i).at_ 0 (bs []) [a.t, b.t]], b.i, b.ns⟩ else some a
def comparedB (R : PFs) (deep i : Nat) (ns : List ByteArray) : Option (POut ExT) :=
  (R.listed deep i ns).bind fun a =>
    if anyS cmpSigns (sgn (tokAt L E a.i)) then (R.listed deep (a.i + 1) a.ns).bind fun b => some ⟨exN 10 (tokAt L E a.i).at_ 0 (tokAt L E a.i).s [a.t, b.t], b.i, b.ns⟩ else some a
def setB (R : PFs) (deep i : Nat) (ns : List ByteArray) : Option (POut ExT) :=
  (R.compared deep i ns).bind fun a => if eqS (sgn (tokAt L E a.i)) qSet then none else some a
def exprB (R : PFs) (deep i : Nat) (ns : List ByteArray) : Option (POut ExT) :=
  let t := tokAt L E i
  let s := sgn t
  if startsExprP t = false then none
  else if 100 < deep then none
  else if eqS s qFun then (wordP L E (i + 1) 3).bind fun n => (eatP L E n.2 qArrow).bind fun j => (R.expr (deep + 1) j ns).bind fun a => some ⟨exN 5 t.at_ 0 n.1 [a.t], a.i, a.ns⟩
  else if eqS s qLet then none
  else if eqS s qIf then (R.expr (deep + 1) (i + 1) ns).bind fun a => (eatP L E a.i qThen).bind fun j => (R.expr (deep + 1) j a.ns).bind fun b => (eatP L E b.i qElse).bind fun k => (R.expr (deep + 1) k b.ns).bind fun c => some ⟨exN 9 t.at_ 0 (bs []) [a.t, b.t, c.t], c.i, c.ns⟩
  else if eqS s qMatch then R.mtch deep t.at_ (i + 1) ns
  else if eqS s qTry then none
  else (R.set deep i ns).bind fun a =>
    if eqS (sgn (tokAt L E a.i)) qSemi then (R.expr (deep + 1) (a.i + 1) a.ns).bind fun b => some ⟨exN 19 (tokAt L E a.i).at_ 0 (bs []) [a.t, b.t], b.i, b.ns⟩ else some a
/-- How a pattern's tree is laid, in preorder. -/
def fromD (x : GDNode) : GPNode := ⟨x.kind, x.n, x.s, x.kids⟩
def layPx : PxT → GPat := fun t => ⟨(layPxN 0 t).map fromD⟩
structure MOut where
  kids : List ExT
  pats : List GPat
  i : Nat
  ns : List ByteArray
def armsL (R : PFs) (deep : Nat) : Nat → MOut → Option MOut
  | 0, _ => none
  | g + 1, m => (R.pat 0 (if m.pats.length = 0 then m.i else m.i + 1) []).bind fun q => (eatP L E q.i qArrow).bind fun j => (R.expr (deep + 1) j q.ns).bind fun b =>
      if eqS (sgn (tokAt L E b.i)) qBar then armsL R deep g ⟨m.kids ++ [b.t], m.pats ++ [layPx q.t], b.i, b.ns⟩ else some ⟨m.kids ++ [b.t], m.pats ++ [layPx q.t], b.i, b.ns⟩
def mtchB (R : PFs) (deep : Nat) (at_ : Int) (i : Nat) (ns : List ByteArray) : Option (POut ExT) :=
  (R.expr (deep + 1) i ns).bind fun a => (eatP L E a.i qWith).bind fun j => (armsL L E R deep 100 ⟨[a.t], [], j, a.ns⟩).bind fun m => (eatP L E m.i qEnd).map fun k => ⟨.mk 13 at_ 0 (bs []) m.kids m.pats, k, m.ns⟩
def pfs0 : PFs := ⟨fun _ _ _ => none, fun _ _ _ => none, fun _ _ _ => none, fun _ _ _ _ => none, fun _ _ _ => none, fun _ _ _ => none, fun _ _ _ => none, fun _ _ _ => none, fun _ _ _ _ => none, fun _ _ _ => none, fun _ _ _ => none⟩
def pfs : Nat → PFs
  | 0 => pfs0
  | f + 1 => { expr := exprB L E (pfs f), set := setB L E (pfs f), listed := listedB L E (pfs f), chain := chainB L E (pfs f), compared := comparedB L E (pfs f), unary := unaryB L E (pfs f), app := appB L E (pfs f), atom := atomB L E (pfs f), mtch := mtchB L E (pfs f), pat := patB L E (pfs f), patAtom := patAtomB L E (pfs f) }
end
/-- The program of a text of the library. -/
def parseL (l : List UInt8) : Option ExT :=
  (lexL 200 0 l []).bind fun L => if eqS (sgn (tokAt L l.length 0)) qType then none else ((pfs L l.length 200).expr 0 0 []).bind fun a => if a.i = L.length then some a.t else none
end Go.Proofs.YtcjoheplilaccaaGreat
