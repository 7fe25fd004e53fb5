/- The reference's l07End. -/
import Derived.Test.YtpblhonnknmjjaaEnds
namespace Go.Proofs.Ytpblhonnknmjjaa
open Go.RowKit
set_option linter.unusedVariables false
set_option linter.unusedSimpArgs false
attribute [local go_sem] Ext.cell

theorem ends_out {l : List GDNode} {i : Nat} (h : l.length ≤ i) : ∀ f, ends l f i = -1
  | 0 => rfl
  | f + 1 => by unfold ends; rw [List.getElem?_eq_none h]

set_option maxRecDepth 100000 in
set_option maxHeartbeats 2000000 in
theorem l07End_out (x : GData) (i : Nat) (r : List Value) (lo : Nat) (w : World) (hx : GData.R lo w r x) (hi : x.nodes.length ≤ i) :
    Calls Try.prog 25 #[.agg r.toArray, .int .i64 i] w fun e w' => e = .returned (.int .i64 (-1)) ∧ Below w.heap.size w w' := by
  obtain ⟨u0, rfl, -, a0⟩ := hx
  obtain ⟨pa, pc, rfl⟩ := a0.form
  have d1 : decide ((x.nodes.length : Int) ≤ i) = true := decide_eq_true (by omega)
  clear a0
  go_enter Try.func25, Try.ntmps25
  go_wp2
  go_returns
  exact ⟨rfl, by go_grown⟩

end Go.Proofs.Ytpblhonnknmjjaa
