/- How many children a constructor may have: the program's test and the reference's. -/
import Derived.Test.YtpblhonnknmjjaaCon
namespace Go.Proofs.Ytpblhonnknmjjaa
open Go.RowKit
set_option linter.unusedVariables false
set_option linter.unusedSimpArgs false
attribute [local go_sem] Ext.cell

def sTrue : List UInt8 := [116, 114, 117, 101]
def sFalse : List UInt8 := [102, 97, 108, 115, 101]
def sNil : List UInt8 := [91, 93]
def sCons : List UInt8 := [58, 58]
def conShape (s : ByteArray) (k : Int) (pair : Bool) : Bool :=
  if (s.toList == sTrue || s.toList == sFalse || s.toList == sNil) = true then k == 0
  else if (s.toList == sCons) = true then (k == 1) && pair
  else conOk s && decide (k ≤ 1)

set_option maxHeartbeats 1000000 in
theorem conShape_c (s : ByteArray) (k : Int) (pair : Bool) (hs : StrOk s) (w : World) : Calls Try.prog 71 #[.string s, .int .i64 k, .bool pair] w fun e w' => e = .returned (.bool (conShape s k pair)) ∧ w = w' := by
  have c1 := ConOk_c s hs w
  unfold conShape
  cases e1 : (s.toList == sTrue) <;> cases e2 : (s.toList == sFalse) <;> cases e3 : (s.toList == sNil) <;> cases e4 : (s.toList == sCons)
  case false.false.false.false =>
    generalize conOk s = c at *
    unfold sTrue sFalse sNil sCons at *
    cases c
    all_goals
      go_enter Try.func71, Try.ntmps71
      go_wp2_with (go_at_call 86; ((with_reducible refine (c1).mono ?_); rintro e w1 ⟨rfl, rfl⟩))
      go_returns
      exact ⟨rfl, rfl⟩
  all_goals
    clear c1
    unfold sTrue sFalse sNil sCons at *
    cases e5 : (k == 1)
  all_goals
    go_enter Try.func71, Try.ntmps71
    go_wp2_with fail
    go_returns
    exact ⟨rfl, rfl⟩

set_option maxHeartbeats 1000000 in
theorem l04ConOk_c (s : ByteArray) (k : Int) (pair : Bool) (hs : StrOk s) (w : World) : Calls Try.prog 24 #[.string s, .int .i64 k, .bool pair] w fun e w' => e = .returned (.bool (conShape s k pair)) ∧ w = w' := by
  have c1 := specConOk_c s hs w
  have x1 : (s.toList == sCons) = true → (s.toList == sTrue) = false ∧ (s.toList == sFalse) = false ∧ (s.toList == sNil) = false := by
    intro h
    rw [eq_of_beq h]
    decide
  unfold conShape
  cases e4 : (s.toList == sCons)
  · clear x1
    cases e1 : (s.toList == sTrue) <;> cases e2 : (s.toList == sFalse) <;> cases e3 : (s.toList == sNil)
    case false.false.false =>
      generalize conOk s = c at *
      unfold sTrue sFalse sNil sCons at *
      cases c
      all_goals
        go_enter Try.func24, Try.ntmps24
        go_wp2_with (go_at_call 47; ((with_reducible refine (c1).mono ?_); rintro e w1 ⟨rfl, rfl⟩))
        go_returns
        exact ⟨rfl, rfl⟩
    all_goals
      clear c1
      unfold sTrue sFalse sNil sCons at *
      go_enter Try.func24, Try.ntmps24
      go_wp2_with fail
      go_returns
      exact ⟨rfl, rfl⟩
  · obtain ⟨e1, e2, e3⟩ := x1 e4
    rw [e1, e2, e3]
    clear x1 c1
    unfold sTrue sFalse sNil sCons at *
    cases e5 : (k == 1)
    all_goals
      go_enter Try.func24, Try.ntmps24
      go_wp2_with fail
      go_returns
      exact ⟨rfl, rfl⟩

end Go.Proofs.Ytpblhonnknmjjaa
