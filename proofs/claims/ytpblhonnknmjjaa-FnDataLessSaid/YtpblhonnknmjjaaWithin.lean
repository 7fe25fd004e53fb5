/- Ranges of numbers: within, Wrap. -/
import Derived.Test.YtpblhonnknmjjaaRows
import Derived.Test.YtpblhonnknmjjaaTypes
namespace Go.Proofs.Ytpblhonnknmjjaa
open Go.RowKit
set_option linter.unusedVariables false
set_option linter.unusedSimpArgs false
attribute [local go_sem] Ext.cell

theorem toList_empty : ByteArray.empty.toList = [] := by rw [ByteArray.toList_eq]; rfl
theorem isEmpty_iff (s : ByteArray) : s.toList.isEmpty = true ↔ s = ByteArray.empty := by
  rw [List.isEmpty_iff]
  constructor
  · intro h
    exact (toList_eq s ByteArray.empty).1 (by rw [h, toList_empty])
  · rintro rfl; exact toList_empty

/-- 63 bits. -/
def wrap63 (n : Int) : Int := (n + 4611686018427387904) % 9223372036854775808 - 4611686018427387904
theorem wrap63_eq (n : Int) : wrap63 n = n ↔ -4611686018427387904 ≤ n ∧ n ≤ 4611686018427387903 := by unfold wrap63; omega

set_option maxHeartbeats 400000 in
theorem within_c (n lo hi : Int) (w : World) :
    Calls Try.prog 41 #[.int .i64 n, .int .i64 lo, .int .i64 hi] w fun e w' => e = .returned (.bool (decide (lo ≤ n ∧ n ≤ hi))) ∧ w = w' := by
  go_enter Try.func41, Try.ntmps41
  go_wp2
  all_goals (go_returns; refine ⟨?_, rfl⟩; simp_all)
  all_goals omega

set_option maxHeartbeats 400000 in
theorem Wrap_c (n : Int) (h : I64 n) (w : World) :
    Calls Try.prog 23 #[.int .i64 n] w fun e w' => e = .returned (.int .i64 (wrap63 n)) ∧ w = w' := by
  obtain ⟨h0, h1⟩ := h
  go_enter Try.func23, Try.ntmps23
  go_wp2
  go_returns
  refine ⟨?_, rfl⟩
  show Ending.returned (Value.int .i64 (wrap64 (n * 2) / 2)) = _
  congr 2
  unfold wrap64 wrap63
  omega

end Go.Proofs.Ytpblhonnknmjjaa
