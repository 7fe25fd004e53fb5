/- PoolSweep: the program's walk. -/
import Derived.Test.YtajbgkpjmgmdhaaSweep
import Derived.Test.YtajbgkpjmgmdhaaFindVal
namespace Go.Proofs.Ytajbgkpjmgmdhaa
open Go.RowKit
set_option linter.unusedVariables false
set_option linter.unusedSimpArgs false
attribute [local go_sem] Ext.cell

/-- The pool that is being swept lies in box b. -/
structure SwSt (lo : Nat) (w : World) (b : Nat) (q : GPool) : Prop where
  ex : ∃ v0 v1, RowAt w b 0 [v0, v1] ∧ OwnPool lo w v0 v1 q ∧ (∀ g, v0.ownBlock = some g → g ≠ b) ∧ (∀ g, v1.ownBlock = some g → g ≠ b)
  wr : Wr w b 0 2
  lo_ : lo ≤ b
theorem SwSt.below {lo : Nat} {w w' : World} {b : Nat} {q : GPool} (h : SwSt lo w b q) (hb : Below w.heap.size w w') : SwSt lo w' b q :=
  let ⟨v0, v1, h1, h2, h3, h4⟩ := h.ex
  ⟨⟨v0, v1, h1.below hb, h2.below hb, h3, h4⟩, h.wr.below hb, h.lo_⟩
theorem zeroC_wf : GCell.wf zeroC := by refine ⟨⟨?_, ?_⟩, ⟨?_, ?_⟩, ?_, ⟨?_, ?_⟩, ⟨?_, ?_⟩, ?_, ⟨?_, ?_⟩, ⟨?_, ?_⟩, ?_⟩ <;> first | decide | exact Nat.zero_le _
theorem SwSt.made {lo : Nat} {w : World} {v0 v1 : Value} {q : GPool} {ty : TypeId} (h : OwnPool lo w v0 v1 q) (hlo : lo ≤ w.heap.size) : SwSt lo (w.alloc (.cells #[v0, v1] ty)) w.heap.size q := by
  have hb : Below w.heap.size w (w.alloc (.cells #[v0, v1] ty)) := Below.alloc (Below.refl _ _) (Nat.le_refl _) _
  refine ⟨⟨v0, v1, RowAt.box w #[_, _] _, h.below hb, fun g hg => ?_, fun g hg => ?_⟩, Wr.box w #[_, _] _, hlo⟩
  · have := h.cells.base g hg; omega
  · have := h.free.base g hg; omega

set_option maxRecDepth 100000 in
set_option maxHeartbeats 4000000 in
theorem sweep1_c (p : GPool) (r : List Value) (lo lo2 bB bF : Nat) (v : GVal) (uf : Value) (hlen : p.cells.length ≤ 1048576) (w : World) (hB : RowAt w bB 0 r) (hF : RowAt w bF 0 [uf]) (hp : GPool.R lo w r p) (hf : Sl BoolR 1 lo2 w uf (marksOf p.cells.length p.free)) :
    Calls Try.prog 56 #[.agg #[.int .i64 v.kind, .int .i64 v.n, .string v.s], .pointer (some ⟨bB, 0, none⟩), .pointer (some ⟨bF, 0, none⟩)] w fun e w' => e = .returned (.bool (!poolHolds p v)) ∧ Below w.heap.size w w' := by
  have Hp := hp
  obtain ⟨u0, u1, rfl, -, a0, a1⟩ := hp
  obtain ⟨pa, pc, rfl⟩ := a0.form
  obtain ⟨qa, qc, rfl⟩ := a1.form
  have c1 := fun W (hW : Below w.heap.size w W) => holds_c p _ lo v uf lo2 hlen W (GPool.good.below Hp hW) (hf.below BoolR.good hW)
  obtain ⟨fa, fc, rfl⟩ := hf.form
  rw [marksOf_length] at c1 hF
  replace c1 := Lib.hid c1
  clear a0 a1 Hp hf
  go_enter Try.func56, Try.ntmps56
  go_upto_region 1 with fail
  have D : RowAt (w.alloc (.cells #[.int .i64 v.kind, .int .i64 v.n, .string v.s] 28)) (w.heap.size) 0 [.int .i64 v.kind, .int .i64 v.n, .string v.s] := RowAt.box w #[.int .i64 v.kind, .int .i64 v.n, .string v.s] 28
  have hw : Below w.heap.size w (w.alloc (.cells #[.int .i64 v.kind, .int .i64 v.n, .string v.s] 28)) := by go_grown
  generalize (w.alloc (.cells #[.int .i64 v.kind, .int .i64 v.n, .string v.s] 28)) = w0 at *
  have hs := hw.size
  have hB := hB.below hw; have hF := hF.below hw
  obtain ⟨d_0, d_1, d_2⟩ := D.box3; have hsD := World.block_lt_of_cell? _ _ d_0; dsimp only at hsD
  obtain ⟨b_0, b_1⟩ := hB.box2
  have f_0 := hF.box1
  go_wp2_with (go_at_call 57; (with_reducible refine (c1.out _ (by go_grown)).mono ?_); rintro e w1 ⟨rfl, hb⟩; have hw1 := hw.trans (hb.mono (by first | (simp; omega) | omega)))
  go_returns
  exact ⟨rfl, hw1⟩

end Go.Proofs.Ytajbgkpjmgmdhaa
