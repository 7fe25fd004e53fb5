/- ConOk of both. -/
import Derived.Test.YtpblhonnknmjjaaWord
namespace Go.Proofs.Ytpblhonnknmjjaa
open Go.RowKit
set_option linter.unusedVariables false
set_option linter.unusedSimpArgs false
attribute [local go_sem] Ext.cell

def conOk (s : ByteArray) : Bool := wordOk s && upB (firstB s)

set_option maxHeartbeats 1000000 in
theorem ConOk_c (s : ByteArray) (hs : StrOk s) (w : World) : Calls Try.prog 86 #[.string s] w fun e w' => e = .returned (.bool (conOk s)) ∧ w = w' := by
  have c1 := wordOk_c s hs w
  unfold StrOk at hs
  cases hw : wordOk s with
  | false =>
    rw [hw] at c1
    replace hw := Lib.hid hw
    go_enter Try.func86, Try.ntmps86
    go_wp2_with (go_at_call 92; ((with_reducible refine (c1).mono ?_); rintro e w1 ⟨rfl, rfl⟩))
    go_returns
    exact ⟨by unfold conOk; rw [hw.out]; rfl, rfl⟩
  | true =>
    rw [hw] at c1
    have h0 : 0 < s.size := by unfold wordOk at hw; simp at hw; omega
    have h0' : (0 : Int) < s.size := by omega
    have hf : firstB s = (s[0]'h0).toNat := by unfold firstB; rw [dif_pos h0]
    replace hw := Lib.hid hw
    replace hf := Lib.hid hf
    go_enter Try.func86, Try.ntmps86
    go_wp2_with (first | (go_at_call 92; ((with_reducible refine (c1).mono ?_); rintro e w1 ⟨rfl, rfl⟩)) | (go_at_call 78; ((with_reducible refine (isUpper_c _ _).mono ?_); rintro e w1 ⟨rfl, rfl⟩)))
    go_returns
    exact ⟨by unfold conOk; rw [hw.out, hf.out]; rfl, rfl⟩

theorem word01_two (s : ByteArray) : word01 s 2 = conOk s := by
  unfold word01 conOk wordOk
  rw [clsB_two]
  cases decide (1 ≤ (s.size : Int) ∧ (s.size : Int) ≤ 12) <;> cases upB (firstB s) <;> cases allW s.data.toList <;> rfl

theorem specConOk_c (s : ByteArray) (hs : StrOk s) (w : World) : Calls Try.prog 47 #[.string s] w fun e w' => e = .returned (.bool (conOk s)) ∧ w = w' := by
  rw [← word01_two]
  go_enter Try.func47, Try.ntmps47
  go_wp2_with (go_at_call 72; ((with_reducible refine (l01Word_c s 2 hs _).mono ?_); rintro e w1 ⟨rfl, rfl⟩))
  go_returns
  exact ⟨rfl, rfl⟩

end Go.Proofs.Ytpblhonnknmjjaa
