/- Parts of the proof, merged: CodeText. -/
import Derived.Lib.AppendStr
import Derived.Test.YtklfepnokidnaaaSc13
/- The text of a code: the plain law; the names of the operations. -/
namespace Go.Proofs.Ytklfepnokidnaaa
open Go.RowKit
set_option linter.unusedVariables false
set_option linter.unusedSimpArgs false
attribute [local go_sem] Ext.cell

def opNames : List ByteArray := [⟨#[105, 110, 116]⟩, ⟨#[115, 116, 114]⟩, ⟨#[117, 110, 105, 116]⟩, ⟨#[99, 111, 110]⟩, ⟨#[112, 97, 105, 114]⟩, ⟨#[118, 97, 114]⟩, ⟨#[103, 105, 118, 101, 110]⟩, ⟨#[102, 117, 110]⟩, ⟨#[114, 101, 99]⟩, ⟨#[99, 97, 108, 108]⟩, ⟨#[114, 101, 116]⟩, ⟨#[106, 117, 109, 112]⟩, ⟨#[105, 102, 110, 111, 116]⟩, ⟨#[98, 105, 110, 100]⟩, ⟨#[100, 114, 111, 112]⟩, ⟨#[112, 114, 105, 109]⟩, ⟨#[114, 97, 105, 115, 101]⟩, ⟨#[116, 114, 121]⟩, ⟨#[111, 107]⟩, ⟨#[97, 114, 109]⟩, ⟨#[110, 111, 97, 114, 109]⟩, ⟨#[114, 101, 102]⟩, ⟨#[103, 101, 116]⟩, ⟨#[115, 101, 116]⟩, ⟨#[112, 111, 112]⟩]
def opN (op : Int) : ByteArray := opNames.getD (op - 1).toNat ByteArray.empty
def bSp : ByteArray := ⟨#[32]⟩
def bNl : ByteArray := ⟨#[10]⟩
theorem opN_len (op : Int) : (opN op).size ≤ 5 := by
  unfold opN
  rw [List.getD_eq_getElem?_getD]
  cases h : opNames[(op - 1).toNat]? with
  | none => exact Nat.zero_le _
  | some y =>
    have hy := List.mem_of_getElem? h
    have : ∀ y ∈ opNames, y.size ≤ 5 := by decide
    exact this y hy
theorem opN_at {op : Int} (h0 : 1 ≤ op) (h1 : op ≤ 25) : ([.string ⟨#[105, 110, 116]⟩, .string ⟨#[115, 116, 114]⟩, .string ⟨#[117, 110, 105, 116]⟩, .string ⟨#[99, 111, 110]⟩, .string ⟨#[112, 97, 105, 114]⟩, .string ⟨#[118, 97, 114]⟩, .string ⟨#[103, 105, 118, 101, 110]⟩, .string ⟨#[102, 117, 110]⟩, .string ⟨#[114, 101, 99]⟩, .string ⟨#[99, 97, 108, 108]⟩, .string ⟨#[114, 101, 116]⟩, .string ⟨#[106, 117, 109, 112]⟩, .string ⟨#[105, 102, 110, 111, 116]⟩, .string ⟨#[98, 105, 110, 100]⟩, .string ⟨#[100, 114, 111, 112]⟩, .string ⟨#[112, 114, 105, 109]⟩, .string ⟨#[114, 97, 105, 115, 101]⟩, .string ⟨#[116, 114, 121]⟩, .string ⟨#[111, 107]⟩, .string ⟨#[97, 114, 109]⟩, .string ⟨#[110, 111, 97, 114, 109]⟩, .string ⟨#[114, 101, 102]⟩, .string ⟨#[103, 101, 116]⟩, .string ⟨#[115, 101, 116]⟩, .string ⟨#[112, 111, 112]⟩] : List Value)[(op - 1).toNat]? = some (.string (opN op)) := by
  have e : ([.string ⟨#[105, 110, 116]⟩, .string ⟨#[115, 116, 114]⟩, .string ⟨#[117, 110, 105, 116]⟩, .string ⟨#[99, 111, 110]⟩, .string ⟨#[112, 97, 105, 114]⟩, .string ⟨#[118, 97, 114]⟩, .string ⟨#[103, 105, 118, 101, 110]⟩, .string ⟨#[102, 117, 110]⟩, .string ⟨#[114, 101, 99]⟩, .string ⟨#[99, 97, 108, 108]⟩, .string ⟨#[114, 101, 116]⟩, .string ⟨#[106, 117, 109, 112]⟩, .string ⟨#[105, 102, 110, 111, 116]⟩, .string ⟨#[98, 105, 110, 100]⟩, .string ⟨#[100, 114, 111, 112]⟩, .string ⟨#[112, 114, 105, 109]⟩, .string ⟨#[114, 97, 105, 115, 101]⟩, .string ⟨#[116, 114, 121]⟩, .string ⟨#[111, 107]⟩, .string ⟨#[97, 114, 109]⟩, .string ⟨#[110, 111, 97, 114, 109]⟩, .string ⟨#[114, 101, 102]⟩, .string ⟨#[103, 101, 116]⟩, .string ⟨#[115, 101, 116]⟩, .string ⟨#[112, 111, 112]⟩] : List Value) = opNames.map Value.string := rfl
  have hl : (op - 1).toNat < opNames.length := by show _ < 25; omega
  rw [e, List.getElem?_map, List.getElem?_eq_getElem hl]
  unfold opN
  rw [List.getD_eq_getElem?_getD, List.getElem?_eq_getElem hl]
  rfl
set_option maxRecDepth 100000 in
set_option maxHeartbeats 8000000 in
theorem opName_c (op : Int) (h0 : 1 ≤ op) (h1 : op ≤ 25) (w : World) : Calls Try.prog 41 #[.int .i64 op] w fun e w' => e = .returned (.string (opN op)) ∧ Below w.heap.size w w' := by
  obtain ⟨W0, hW0⟩ : ∃ W0, W0 = w.alloc (.cells #[.string ⟨#[105, 110, 116]⟩, .string ⟨#[115, 116, 114]⟩, .string ⟨#[117, 110, 105, 116]⟩, .string ⟨#[99, 111, 110]⟩, .string ⟨#[112, 97, 105, 114]⟩, .string ⟨#[118, 97, 114]⟩, .string ⟨#[103, 105, 118, 101, 110]⟩, .string ⟨#[102, 117, 110]⟩, .string ⟨#[114, 101, 99]⟩, .string ⟨#[99, 97, 108, 108]⟩, .string ⟨#[114, 101, 116]⟩, .string ⟨#[106, 117, 109, 112]⟩, .string ⟨#[105, 102, 110, 111, 116]⟩, .string ⟨#[98, 105, 110, 100]⟩, .string ⟨#[100, 114, 111, 112]⟩, .string ⟨#[112, 114, 105, 109]⟩, .string ⟨#[114, 97, 105, 115, 101]⟩, .string ⟨#[116, 114, 121]⟩, .string ⟨#[111, 107]⟩, .string ⟨#[97, 114, 109]⟩, .string ⟨#[110, 111, 97, 114, 109]⟩, .string ⟨#[114, 101, 102]⟩, .string ⟨#[103, 101, 116]⟩, .string ⟨#[115, 101, 116]⟩, .string ⟨#[112, 111, 112]⟩] 9) := ⟨_, rfl⟩
  have hb : Below w.heap.size w W0 := by rw [hW0]; go_grown
  have hc : W0.cell? ⟨w.heap.size, (op - 1).toNat, none⟩ = some (.string (opN op)) := by
    have h := RowAt.box w #[.string ⟨#[105, 110, 116]⟩, .string ⟨#[115, 116, 114]⟩, .string ⟨#[117, 110, 105, 116]⟩, .string ⟨#[99, 111, 110]⟩, .string ⟨#[112, 97, 105, 114]⟩, .string ⟨#[118, 97, 114]⟩, .string ⟨#[103, 105, 118, 101, 110]⟩, .string ⟨#[102, 117, 110]⟩, .string ⟨#[114, 101, 99]⟩, .string ⟨#[99, 97, 108, 108]⟩, .string ⟨#[114, 101, 116]⟩, .string ⟨#[106, 117, 109, 112]⟩, .string ⟨#[105, 102, 110, 111, 116]⟩, .string ⟨#[98, 105, 110, 100]⟩, .string ⟨#[100, 114, 111, 112]⟩, .string ⟨#[112, 114, 105, 109]⟩, .string ⟨#[114, 97, 105, 115, 101]⟩, .string ⟨#[116, 114, 121]⟩, .string ⟨#[111, 107]⟩, .string ⟨#[97, 114, 109]⟩, .string ⟨#[110, 111, 97, 114, 109]⟩, .string ⟨#[114, 101, 102]⟩, .string ⟨#[103, 101, 116]⟩, .string ⟨#[115, 101, 116]⟩, .string ⟨#[112, 111, 112]⟩] 9 (op - 1).toNat _ (opN_at h0 h1)
    rw [← hW0] at h
    simpa using h
  have d2 : 0 ≤ op - 1 := by omega
  have d3 : op - 1 < 25 := by omega
  generalize opN op = o at *
  replace hW0 := Lib.hid hW0
  go_enter Try.func41, Try.ntmps41
  go_upto_region 2 with fail
  rw [show w.alloc (.cells #[.string ⟨#[105, 110, 116]⟩, .string ⟨#[115, 116, 114]⟩, .string ⟨#[117, 110, 105, 116]⟩, .string ⟨#[99, 111, 110]⟩, .string ⟨#[112, 97, 105, 114]⟩, .string ⟨#[118, 97, 114]⟩, .string ⟨#[103, 105, 118, 101, 110]⟩, .string ⟨#[102, 117, 110]⟩, .string ⟨#[114, 101, 99]⟩, .string ⟨#[99, 97, 108, 108]⟩, .string ⟨#[114, 101, 116]⟩, .string ⟨#[106, 117, 109, 112]⟩, .string ⟨#[105, 102, 110, 111, 116]⟩, .string ⟨#[98, 105, 110, 100]⟩, .string ⟨#[100, 114, 111, 112]⟩, .string ⟨#[112, 114, 105, 109]⟩, .string ⟨#[114, 97, 105, 115, 101]⟩, .string ⟨#[116, 114, 121]⟩, .string ⟨#[111, 107]⟩, .string ⟨#[97, 114, 109]⟩, .string ⟨#[110, 111, 97, 114, 109]⟩, .string ⟨#[114, 101, 102]⟩, .string ⟨#[103, 101, 116]⟩, .string ⟨#[115, 101, 116]⟩, .string ⟨#[112, 111, 112]⟩] 9) = W0 from hW0.out.symm]
  clear hW0
  rw [show (op - 1).toNat = op.toNat - 1 by omega] at hc
  go_wp2_with fail
  go_returns
  exact ⟨rfl, hb⟩
set_option maxRecDepth 100000 in
set_option maxHeartbeats 8000000 in
theorem l10Name_c (op : Int) (h0 : 1 ≤ op) (h1 : op ≤ 25) (w : World) : Calls Try.prog 28 #[.int .i64 op] w fun e w' => e = .returned (.string (opN op)) ∧ Below w.heap.size w w' := by
  have hrow : ([.string ⟨#[]⟩, .string ⟨#[105, 110, 116]⟩, .string ⟨#[115, 116, 114]⟩, .string ⟨#[117, 110, 105, 116]⟩, .string ⟨#[99, 111, 110]⟩, .string ⟨#[112, 97, 105, 114]⟩, .string ⟨#[118, 97, 114]⟩, .string ⟨#[103, 105, 118, 101, 110]⟩, .string ⟨#[102, 117, 110]⟩, .string ⟨#[114, 101, 99]⟩, .string ⟨#[99, 97, 108, 108]⟩, .string ⟨#[114, 101, 116]⟩, .string ⟨#[106, 117, 109, 112]⟩, .string ⟨#[105, 102, 110, 111, 116]⟩, .string ⟨#[98, 105, 110, 100]⟩, .string ⟨#[100, 114, 111, 112]⟩, .string ⟨#[112, 114, 105, 109]⟩, .string ⟨#[114, 97, 105, 115, 101]⟩, .string ⟨#[116, 114, 121]⟩, .string ⟨#[111, 107]⟩, .string ⟨#[97, 114, 109]⟩, .string ⟨#[110, 111, 97, 114, 109]⟩, .string ⟨#[114, 101, 102]⟩, .string ⟨#[103, 101, 116]⟩, .string ⟨#[115, 101, 116]⟩, .string ⟨#[112, 111, 112]⟩] : List Value)[op.toNat]? = some (.string (opN op)) := by
    have e : op.toNat = (op - 1).toNat + 1 := by omega
    rw [e, List.getElem?_cons_succ]
    exact opN_at h0 h1
  have hc : (w.alloc (.cells #[.string ⟨#[]⟩, .string ⟨#[105, 110, 116]⟩, .string ⟨#[115, 116, 114]⟩, .string ⟨#[117, 110, 105, 116]⟩, .string ⟨#[99, 111, 110]⟩, .string ⟨#[112, 97, 105, 114]⟩, .string ⟨#[118, 97, 114]⟩, .string ⟨#[103, 105, 118, 101, 110]⟩, .string ⟨#[102, 117, 110]⟩, .string ⟨#[114, 101, 99]⟩, .string ⟨#[99, 97, 108, 108]⟩, .string ⟨#[114, 101, 116]⟩, .string ⟨#[106, 117, 109, 112]⟩, .string ⟨#[105, 102, 110, 111, 116]⟩, .string ⟨#[98, 105, 110, 100]⟩, .string ⟨#[100, 114, 111, 112]⟩, .string ⟨#[112, 114, 105, 109]⟩, .string ⟨#[114, 97, 105, 115, 101]⟩, .string ⟨#[116, 114, 121]⟩, .string ⟨#[111, 107]⟩, .string ⟨#[97, 114, 109]⟩, .string ⟨#[110, 111, 97, 114, 109]⟩, .string ⟨#[114, 101, 102]⟩, .string ⟨#[103, 101, 116]⟩, .string ⟨#[115, 101, 116]⟩, .string ⟨#[112, 111, 112]⟩] 9)).cell? ⟨w.heap.size, op.toNat, none⟩ = some (.string (opN op)) := by
    have h := RowAt.box w #[.string ⟨#[]⟩, .string ⟨#[105, 110, 116]⟩, .string ⟨#[115, 116, 114]⟩, .string ⟨#[117, 110, 105, 116]⟩, .string ⟨#[99, 111, 110]⟩, .string ⟨#[112, 97, 105, 114]⟩, .string ⟨#[118, 97, 114]⟩, .string ⟨#[103, 105, 118, 101, 110]⟩, .string ⟨#[102, 117, 110]⟩, .string ⟨#[114, 101, 99]⟩, .string ⟨#[99, 97, 108, 108]⟩, .string ⟨#[114, 101, 116]⟩, .string ⟨#[106, 117, 109, 112]⟩, .string ⟨#[105, 102, 110, 111, 116]⟩, .string ⟨#[98, 105, 110, 100]⟩, .string ⟨#[100, 114, 111, 112]⟩, .string ⟨#[112, 114, 105, 109]⟩, .string ⟨#[114, 97, 105, 115, 101]⟩, .string ⟨#[116, 114, 121]⟩, .string ⟨#[111, 107]⟩, .string ⟨#[97, 114, 109]⟩, .string ⟨#[110, 111, 97, 114, 109]⟩, .string ⟨#[114, 101, 102]⟩, .string ⟨#[103, 101, 116]⟩, .string ⟨#[115, 101, 116]⟩, .string ⟨#[112, 111, 112]⟩] 9 op.toNat _ hrow
    simpa using h
  have d2 : 0 ≤ op := by omega
  have d3 : op < 26 := by omega
  generalize opN op = o at *
  go_enter Try.func28, Try.ntmps28
  go_wp2_with fail
  go_returns
  exact ⟨rfl, by go_grown⟩

/-- Whether A stands in the text. -/
def aOps : List Int := [1, 4, 6, 15, 20]
def showsA (op : Int) : Bool := leadsP op || aOps.any fun y => op == y
/-- The line of instruction k, step by step. -/
def line1 (k : Nat) (x : GIns) : ByteArray := numText k ++ bSp ++ opN x.op
def line2 (k : Nat) (x : GIns) : ByteArray := if showsA x.op = true then line1 k x ++ bSp ++ numText x.a else line1 k x
def insLine (k : Nat) (x : GIns) : ByteArray :=
  if x.op = 20 then line2 k x ++ bSp ++ numText x.b else if x.op = 7 ∨ x.op = 4 ∨ x.op = 16 then line2 k x ++ bSp ++ x.s else if x.op = 2 then line2 k x ++ bSp ++ quoteS x.s else line2 k x
def codeLines (is : List GIns) (k : Nat) : ByteArray := (List.range k).foldl (fun t i => t ++ insLine i (is[i]?.getD ⟨0, 0, 0, ⟨#[]⟩⟩) ++ bNl) ByteArray.empty
theorem codeLines_succ {is : List GIns} {k : Nat} {x : GIns} (h : is[k]? = some x) : codeLines is (k + 1) = codeLines is k ++ insLine k x ++ bNl := by
  unfold codeLines
  rw [List.range_succ, List.foldl_append, List.foldl_cons, List.foldl_nil, h]
  rfl
theorem line_len {k : Nat} {x : GIns} (h : x.s.size ≤ 1048576) : (line1 k x).size ≤ 26 ∧ (line2 k x).size ≤ 47 ∧ (insLine k x).size ≤ 4194400 := by
  have h1 := numText_len k
  have h2 := numText_len x.a
  have h3 := numText_len x.b
  have h4 := opN_len x.op
  have h5 := quoteS_len x.s
  have e1 : (line1 k x).size ≤ 26 := by
    unfold line1
    rw [ByteArray.size_append, ByteArray.size_append]
    show _ + 1 + _ ≤ _
    omega
  have e2 : (line2 k x).size ≤ 47 := by
    unfold line2
    split
    · rw [ByteArray.size_append, ByteArray.size_append]
      show _ + 1 + _ ≤ _
      omega
    · omega
  refine ⟨e1, e2, ?_⟩
  unfold insLine
  have hs : bSp.size = 1 := rfl
  repeat' split
  all_goals try simp only [ByteArray.size_append, hs]
  all_goals omega
theorem codeLines_len (is : List GIns) (h : ∀ x ∈ is, x.s.size ≤ 1048576) (k : Nat) (hk : k ≤ is.length) : (codeLines is k).size ≤ k * 4194401 := by
  induction k with
  | zero => exact Nat.zero_le _
  | succ k ih =>
    have hx := List.getElem?_eq_getElem (l := is) (i := k) (by omega)
    rw [codeLines_succ hx, ByteArray.size_append, ByteArray.size_append]
    have h1 := ih (by omega)
    have h2 := (line_len (k := k) (h _ (List.mem_of_getElem? hx))).2.2
    have hn : bNl.size = 1 := rfl
    rw [hn]
    omega
theorem cells_app (a b : ByteArray) : Lib.strCells a ++ Lib.strCells b = Lib.strCells (a ++ b) := by
  unfold Lib.strCells
  rw [← List.map_append, ByteArray.data_append, Array.toList_append]
theorem numText_nat {k : Nat} (h : k ≤ 1048576) : numText (k : Int) = numS k := by
  unfold numText
  rw [if_pos (by omega), if_neg (by omega)]
  simp

theorem insLine_rest {k : Nat} {op a b : Int} {s : ByteArray} (h : (op == 20) = false ∧ (op == 7) = false ∧ (op == 4) = false ∧ (op == 16) = false ∧ (op == 2) = false) : insLine k ⟨op, a, b, s⟩ = line2 k ⟨op, a, b, s⟩ := by
  obtain ⟨h1, h2, h3, h4, h5⟩ := h
  simp only [beq_eq_false_iff_ne, ne_eq] at *
  unfold insLine
  rw [if_neg h1, if_neg (by simp [h2, h3, h4]), if_neg h5]
theorem line2_yes {k : Nat} {op a b : Int} {s : ByteArray} (h : showsA op = true) : line2 k ⟨op, a, b, s⟩ = line1 k ⟨op, a, b, s⟩ ++ bSp ++ numText a := by unfold line2; rw [if_pos h]
theorem line2_no {k : Nat} {op a b : Int} {s : ByteArray} (h : showsA op = false) : line2 k ⟨op, a, b, s⟩ = line1 k ⟨op, a, b, s⟩ := by unfold line2; rw [if_neg (by simp only [h]; decide)]

end Go.Proofs.Ytklfepnokidnaaa
