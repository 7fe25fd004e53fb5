/- The text of a case: plain law. -/
import Derived.Test.YtigacgfaliicaaaCaseOk3
import Derived.Lib.Join
namespace Go.Proofs.Ytigacgfaliicaaa
open Go.RowKit
set_option linter.unusedVariables false
set_option linter.unusedSimpArgs false

def bL (s : ByteArray) : List UInt8 := s.data.toList
def catNl (xs : List (List UInt8)) : List UInt8 := xs.flatMap (· ++ [10])
theorem catNl_append (xs ys : List (List UInt8)) : catNl (xs ++ ys) = catNl xs ++ catNl ys := by unfold catNl; rw [List.flatMap_append]
theorem join_snoc (x : List UInt8) (r : List (List UInt8)) (y sep : List UInt8) : Lib.join ((x :: r) ++ [y]) sep = Lib.join (x :: r) sep ++ sep ++ y := by
  rw [List.cons_append, Lib.join_cons, Lib.join_cons]
  have h := Lib.joinTail_take_succ sep (r ++ [y]) r.length y (by simp)
  rw [List.take_of_length_le (by simp)] at h
  rw [show (r ++ [y]).take r.length = r by simp] at h
  rw [h]
  simp [List.append_assoc]
theorem join_nl : ∀ (r : List (List UInt8)) (x : List UInt8), Lib.join (x :: r) [10] ++ [10] = catNl (x :: r) := by
  intro r
  induction r with
  | nil => intro x; rw [Lib.join_one]; simp [catNl]
  | cons y r ih =>
    intro x
    have h := ih y
    rw [Lib.join_cons] at h ⊢
    have e : Lib.joinTail [10] (y :: r) = [10] ++ (y ++ Lib.joinTail [10] r) := by
      simp [Lib.joinTail]
    rw [e]
    unfold catNl at *
    rw [List.flatMap_cons, ← h]
    simp [List.append_assoc]

def nums (x : GCase) : List (List UInt8) := x.inputs.map fun n => bL (numText n)
/-- The lines of a case. -/
def caseLines (x : GCase) : List (List UInt8) :=
  [[99, 97, 115, 101, 32] ++ bL x.name] ++ x.lines.map (fun s => 62 :: bL s) ++ (if x.inputs.length = 0 then [] else [60 :: Lib.join (nums x) [32]]) ++ x.want.map (fun s => 61 :: bL s) ++ [[101, 110, 100]]
def caseText (x : GCase) : ByteArray := if caseOk x then ⟨(catNl (caseLines x)).toArray⟩ else ByteArray.empty

end Go.Proofs.Ytigacgfaliicaaa
