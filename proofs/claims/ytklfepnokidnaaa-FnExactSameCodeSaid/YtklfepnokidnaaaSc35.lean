/- Parts of the proof, merged: CodeLaw0. -/
import Derived.Test.YtklfepnokidnaaaSc34
/- What the laws of codes need: bounds of the marks. -/
namespace Go.Proofs.Ytklfepnokidnaaa
open Go.RowKit
set_option linter.unusedVariables false
set_option linter.unusedSimpArgs false

theorem codeCopy_bulk {c : GCode} (h : c.bulk ≤ 1048576) : CodeCopy c := by
  unfold GCode.bulk at h
  have h1 := bulkS_nonneg GIns.bulk_nonneg c.ins
  have h2 := bulkS_nonneg GPat.bulk_nonneg c.pats
  have h3 := length_le_bulkS (f := GIns.bulk) GIns.bulk_nonneg c.ins
  have h4 := length_le_bulkS (f := GPat.bulk) GPat.bulk_nonneg c.pats
  refine ⟨by omega, by omega, fun q hq => ?_⟩
  obtain ⟨i, hi, rfl⟩ := List.getElem_of_mem hq
  have h5 := le_bulkS (f := GPat.bulk) GPat.bulk_nonneg (List.getElem?_eq_getElem hi)
  have h6 : GPat.bulk c.pats[i] = bulkS GPNode.bulk c.pats[i].nodes := rfl
  have h7 := length_le_bulkS (f := GPNode.bulk) GPNode.bulk_nonneg c.pats[i].nodes
  refine ⟨by omega, fun x hx => ?_⟩
  obtain ⟨j, hj, rfl⟩ := List.getElem_of_mem hx
  have h8 := le_bulkS (f := GPNode.bulk) GPNode.bulk_nonneg (List.getElem?_eq_getElem hj)
  have h9 : GPNode.bulk c.pats[i].nodes[j] = (c.pats[i].nodes[j].s.size : Int) + (c.pats[i].nodes[j].kids.length : Int) := rfl
  omega
theorem cntL_bound {α : Type} (cnt : α → Nat) (K : Nat) : ∀ xs : List α, (∀ x ∈ xs, cnt x ≤ K) → cntL cnt xs ≤ xs.length * K
  | [], _ => by simp [cntL]
  | x :: xs, h => by
    have h1 := cntL_bound cnt K xs fun y hy => h y (by simp [hy])
    have h2 := h x (by simp)
    simp only [cntL, List.map_cons, List.sum_cons, List.length_cons, Nat.succ_mul] at *
    omega
theorem cnt_ok {c : GCode} (h : c.bulk ≤ 1048576) : (∀ d : GCode, d.ins.length ≤ c.ins.length → (d.pats = c.pats ∨ d.pats = []) → 1 + cntCode d ≤ 4611686018427387904 ∧ LenOkCode d) := by
  obtain ⟨h1, h2, h3⟩ := codeCopy_bulk h
  have hq : ∀ q ∈ c.pats, cntPat q ≤ 1048576 * 1048579 := fun q hq => by
    obtain ⟨h4, h5⟩ := h3 q hq
    have h6 : cntPat q ≤ q.nodes.length * 1048579 := cntL_bound _ _ _ fun x hx => by
      have h7 := h5 x hx
      have h8 : cntL cntInt x.kids ≤ x.kids.length * 1 := cntL_bound _ _ _ fun y _ => Nat.le_refl _
      unfold cntPNode; omega
    exact Nat.le_trans h6 (Nat.mul_le_mul_right _ h4)
  intro d hd hp
  have hi : cntL cntIns d.ins ≤ d.ins.length * 4 := cntL_bound _ _ _ fun x _ => Nat.le_refl _
  have hpp : cntL cntPat d.pats ≤ 1048576 * (1048576 * 1048579) := by
    rcases hp with hp | hp
    · rw [hp]; exact Nat.le_trans (cntL_bound _ _ _ hq) (Nat.mul_le_mul_right _ h2)
    · rw [hp]; simp [cntL]
  refine ⟨by unfold cntCode; omega, by unfold LenOkIns; omega, ?_⟩
  rcases hp with hp | hp
  · rw [hp]; exact ⟨by omega, fun q hq => ⟨by have := (h3 q hq).1; omega, fun x hx => by have := (h3 q hq).2 x hx; omega⟩⟩
  · rw [hp]; exact ⟨by simp, fun q hq => by cases hq⟩
theorem eqCode_eq (y : GCode) (r s : List Value) (lo lo' : Nat) (W : World) (h1 : GCode.R lo W r y) (h2 : GCode.R lo' W s y) :
    Calls Try.prog 8 #[.agg r.toArray, .agg s.toArray] W fun e W' => e = .returned (.bool true) ∧ Below W.heap.size W W' :=
  (eqCode_c y y r s lo lo' W h1 h2).mono fun e W' ⟨he, hb⟩ => ⟨by rw [he]; simp, hb⟩
/-- A result that has no more instructions, and the same patterns or none. -/
def CodeSub (c d : GCode) : Prop := d.ins.length ≤ c.ins.length ∧ (d.pats = c.pats ∨ d.pats = [])

end Go.Proofs.Ytklfepnokidnaaa
