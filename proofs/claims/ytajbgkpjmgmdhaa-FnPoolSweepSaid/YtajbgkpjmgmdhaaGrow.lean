/- Marks of rows. -/
import Derived.Test.YtajbgkpjmgmdhaaMark
import Derived.Test.YtajbgkpjmgmdhaaOwn
namespace Go.Proofs.Ytajbgkpjmgmdhaa
open Go.RowKit
set_option linter.unusedVariables false
set_option linter.unusedSimpArgs false

/-! ### Marks of rows -/
theorem markText_z (n : Nat) (z : Int) (hz : z = n) (hn : n ≤ 4611686018427387904) (w : World) :
    Calls Try.prog 66 #[.int .i64 z] w fun e w' => e = .returned (.string (markT n)) ∧ Below w.heap.size w w' := by subst hz; exact markText_c n hn w
/-- Cell j of marked rows whose cells are of the kinds ks (0 a number, 1 a text, 2 a Bool), the first mark k. -/
def cmk (ks : List Nat) (k j : Nat) : Value := match ks.getD (j % ks.length) 0 with
  | 0 => .int .i64 ((k + j : Nat) : Int)
  | 1 => .string (markT (k + j))
  | _ => .bool ((k + j) % 3 == 0)
theorem cmk_at (ks : List Nat) (k j t m : Nat) (ht : t < ks.length) (hm : m = k + j * ks.length) : cmk ks k (j * ks.length + t) = (match ks.getD t 0 with
  | 0 => .int .i64 ((m + t : Nat) : Int)
  | 1 => .string (markT (m + t))
  | _ => .bool ((m + t) % 3 == 0)) := by
  unfold cmk
  rw [show (j * ks.length + t) % ks.length = t by rw [Nat.add_comm, Nat.add_mul_mod_self_right, Nat.mod_eq_of_lt ht], ← Nat.add_assoc, ← hm]
end Go.Proofs.Ytajbgkpjmgmdhaa
