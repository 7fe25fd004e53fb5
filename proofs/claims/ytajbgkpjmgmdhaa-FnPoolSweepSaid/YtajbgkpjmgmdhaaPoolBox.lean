/- A pool that lies in a box. -/
import Derived.Test.YtajbgkpjmgmdhaaPoolOwn
import Derived.Test.YtajbgkpjmgmdhaaFill
import Derived.Test.YtajbgkpjmgmdhaaEq
namespace Go.Proofs.Ytajbgkpjmgmdhaa
open Go.RowKit
set_option linter.unusedVariables false
set_option linter.unusedSimpArgs false
attribute [local go_sem] Ext.cell

theorem eqPool_same {p : GPool} {r s : List Value} {lo lo' : Nat} {w : World} (hx : GPool.R lo w r p) (hy : GPool.R lo' w s p) :
    Calls Try.prog 18 #[.agg r.toArray, .agg s.toArray] w fun e w' => e = .returned (.bool true) ∧ Below w.heap.size w w' :=
  (eqPool_c p p _ _ _ _ w hx hy).mono fun e w' ⟨he, hb⟩ => ⟨by rw [he, decide_eq_true rfl], hb⟩
theorem eqValS_same {x : List GVal} {u v : Value} {lo lo' : Nat} {w : World} (hx : Sl GVal.R 3 lo w u x) (hy : Sl GVal.R 3 lo' w v x) :
    Calls Try.prog 28 #[u, v] w fun e w' => e = .returned (.bool true) ∧ Below w.heap.size w w' :=
  (eqValS_c x x _ _ _ _ w hx hy).mono fun e w' ⟨he, hb⟩ => ⟨by rw [he, decide_eq_true rfl], hb⟩

/-- A pool in a box made behind lo; the parts are no such box. -/
def PBox (lo : Nat) (wx : World) (g : Nat) (v0 v1 : Value) (p : GPool) : Prop :=
  RowAt wx g 0 [v0, v1] ∧ OwnPool lo wx v0 v1 p ∧ lo ≤ g ∧ g < wx.heap.size ∧ ∀ k, v0.ownBlock = some k ∨ v1.ownBlock = some k → lo ≤ k ∧ k < wx.heap.size ∧ k ≠ g
theorem pbox_made {lo : Nat} {wt : World} {p : GPool} {a0 a1 : Option Addr} {c0 c1 : Nat} {ty : TypeId} (hs : lo ≤ wt.heap.size) (O : OwnPool lo wt (.slice a0 p.cells.length c0) (.slice a1 p.free.length c1) p) :
    PBox lo (wt.alloc (.cells #[.slice a0 p.cells.length c0, .slice a1 p.free.length c1] ty)) wt.heap.size (.slice a0 p.cells.length c0) (.slice a1 p.free.length c1) p := by
  have ha : Below wt.heap.size wt (wt.alloc (.cells #[.slice a0 p.cells.length c0, .slice a1 p.free.length c1] ty)) := Below.alloc (Below.refl _ _) (Nat.le_refl _) _
  refine ⟨RowAt.box wt #[_, _] _, O.below ha, hs, by simp, fun k hk => ?_⟩
  have := ha.size
  rcases hk with h | h
  · have := O.cells.base k h; omega
  · have := O.free.base k h; omega
abbrev OwnVals := OwnF 28 3 valRow GVal.wf
theorem OwnPool.blocks {lo : Nat} {w : World} {v0 v1 : Value} {p : GPool} (h : OwnPool lo w v0 v1 p) : ∀ k, v0.ownBlock = some k ∨ v1.ownBlock = some k → lo ≤ k ∧ k < w.heap.size := fun k hk => hk.elim (h.cells.base k) (h.free.base k)

end Go.Proofs.Ytajbgkpjmgmdhaa
