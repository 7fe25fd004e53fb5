/- l20Draw: what its loop keeps. -/
import Derived.Test.YtajbgkpjmgmdhaaDraw4
import Derived.Test.YtajbgkpjmgmdhaaTail
namespace Go.Proofs.Ytajbgkpjmgmdhaa
open Go.RowKit
set_option linter.unusedVariables false
set_option linter.unusedSimpArgs false
attribute [local go_sem] Ext.cell

/-- The loop's state: the result's box at w's end, the pool's box bP, the roots. -/
structure LS (W0 w : World) (b bP : Nat) (wx : World) (vr : Value) (vs : List GVal) (v0 v1 : Value) (p : GPool) (B : Nat) : Prop where
  df : DF W0 b w wx
  bw : b < w.heap.size
  box : RowAt wx bP 0 [v0, v1]
  wr : Wr wx bP 0 2
  bP1 : w.heap.size < bP
  own : OwnPool w.heap.size wx v0 v1 p
  small : PSmall p
  tail : Tail B wx w.heap.size 28 3 vr vs.length (rowsOf valRow vs)
  vals : ∀ v ∈ vs, SmallV v
  sepP : ∀ g, v0.ownBlock = some g ∨ v1.ownBlock = some g → g ≠ bP ∧ g ≠ w.heap.size ∧ vr.ownBlock ≠ some g
  sepR : ∀ g, vr.ownBlock = some g → g ≠ bP ∧ g ≠ w.heap.size
  e : RowAt wx w.heap.size 0 [.slice none 0 0, .slice none 0 0] ∧ Wr wx w.heap.size 0 2
section
variable {W0 w wx wy : World} {b bP B : Nat} {vr v0 v1 : Value} {vs : List GVal} {p : GPool}
theorem LS.lt (h : LS W0 w b bP wx vr vs v0 v1 p B) : bP < wx.heap.size := World.block_lt_of_cell? _ _ h.box.box2.1
theorem LS.blocks (h : LS W0 w b bP wx vr vs v0 v1 p B) : ∀ g, v0.ownBlock = some g ∨ v1.ownBlock = some g → w.heap.size ≤ g ∧ g < wx.heap.size := fun g hg => hg.elim (h.own.cells.base g) (h.own.free.base g)
/-- A change of blocks that are none of these. -/
theorem LS.kept (h : LS W0 w b bP wx vr vs v0 v1 p B) {S : Nat → Prop} (hk : Kept S wx wy) (D : DF W0 b w wy)
    (h1 : ¬ S bP) (h2 : ¬ S w.heap.size) (h3 : ∀ g, v0.ownBlock = some g ∨ v1.ownBlock = some g → ¬ S g) (h4 : ∀ g, vr.ownBlock = some g → ¬ S g) : LS W0 w b bP wy vr vs v0 v1 p B :=
  ⟨D, h.bw, h.box.kept hk h1, h.wr.kept hk h1, h.bP1, h.own.kept hk (fun g hg => h3 g (.inl hg)) (fun g hg => h3 g (.inr hg)), h.small, h.tail.kept hk h4, h.vals, h.sepP, h.sepR, h.e.1.kept hk h2, h.e.2.kept hk h2⟩
theorem LS.next (h : LS W0 w b bP wx vr vs v0 v1 p B) (D : DF W0 b wx wy) : LS W0 w b bP wy vr vs v0 v1 p B :=
  have hb := h.bw
  h.kept D.kept (h.df.trans D) (by have := h.bP1; omega) (by omega) (fun g hg => by have := h.blocks g hg; omega) (fun g hg => by have := h.tail.block g hg; omega)
theorem LS.below (h : LS W0 w b bP wx vr vs v0 v1 p B) (hb : Below wx.heap.size wx wy) : LS W0 w b bP wy vr vs v0 v1 p B := h.next ((DF.refl h.df.cur).below hb)
/-- Another pool, that was made behind lo. -/
theorem LS.pool (h : LS W0 w b bP wx vr vs v0 v1 p B) {u0 u1 : Value} {q : GPool} (hq : OwnPool wx.heap.size wy u0 u1 q) (hs : PSmall q) (hb : Below wx.heap.size wx wy) :
    LS W0 w b bP ((wy.setCell ⟨bP, 0, none⟩ u0).setCell ⟨bP, 1, none⟩ u1) vr vs u0 u1 q B := by
  have h' := h.below hb
  have hlt := h.lt
  have hb1 := h.bP1
  have K : Kept (· = bP) wy ((wy.setCell ⟨bP, 0, none⟩ u0).setCell ⟨bP, 1, none⟩ u1) := Kept.set (S := (· = bP)) (p := ⟨bP, 1, none⟩) (Kept.set (S := (· = bP)) (p := ⟨bP, 0, none⟩) (Kept.refl _ _) rfl _) rfl _
  have hz := hb.size
  have hB : ∀ C, C ≤ bP → Below C wy ((wy.setCell ⟨bP, 0, none⟩ u0).setCell ⟨bP, 1, none⟩ u1) := fun C hC => below_set2 (Below.refl _ _) hC _ _
  have D := h'.df.sets K (by omega) h.bw hB
  have q2 := stored2 (x := u0) (y := u1) h'.box.box2.1 h'.box.box2.2
  have hbl : ∀ g, u0.ownBlock = some g ∨ u1.ownBlock = some g → wx.heap.size ≤ g ∧ g < wy.heap.size := fun g hg => hg.elim (hq.cells.base g) (hq.free.base g)
  refine ⟨D, h.bw, RowAt.of2 ((cell_setCell_ne _ bP 1 0 _ (by omega)).trans q2.1) q2.2, (h'.wr.set 0 _).set 1 _, hb1, (hq.mono (by have := h.df.size; omega)).kept K (fun g hg e => by have := hbl g (.inl hg); omega) (fun g hg e => by have := hbl g (.inr hg); omega), hs, h'.tail.kept K (fun g hg e => (h.sepR g hg).1 e), h.vals, fun g hg => ?_, h.sepR, h'.e.1.kept K (by omega), h'.e.2.kept K (by omega)⟩
  have h1 := hbl g hg
  have h2 := h.df.size
  exact ⟨by omega, by omega, fun e => by have := h.tail.block g e; omega⟩
/-- The roots grow. -/
theorem LS.roots (h : LS W0 w b bP wx vr vs v0 v1 p B) {vr' : Value} {vs' : List GVal} {H B' : Nat} (D : DF W0 b w wy) (hg : wx.grownBy wy vr.ownBlock) (ht : Tail B' wy w.heap.size 28 3 vr' vs'.length (rowsOf valRow vs')) (hv : ∀ v ∈ vs', SmallV v)
    (hat : vr'.ownBlock = vr.ownBlock ∨ vr'.ownBlock = some H) (hH : wx.heap.size ≤ H) : LS W0 w b bP wy vr' vs' v0 v1 p B' := by
  have hlt := h.lt
  have hk := kept_grown hg
  have hz := h.df.size
  have hb1 := h.bP1
  refine ⟨D, h.bw, h.box.kept hk (fun e => (h.sepR _ e.symm).1 rfl), h.wr.kept hk (fun e => (h.sepR _ e.symm).1 rfl), hb1, h.own.kept hk (fun g hq e => (h.sepP g (.inl hq)).2.2 e.symm) (fun g hq e => (h.sepP g (.inr hq)).2.2 e.symm), h.small, ht, hv, fun g hq => ⟨(h.sepP g hq).1, (h.sepP g hq).2.1, fun e => ?_⟩, fun g hq => ?_, h.e.1.kept hk (fun e => (h.sepR _ e.symm).2 rfl), h.e.2.kept hk (fun e => (h.sepR _ e.symm).2 rfl)⟩
  · rcases hat with h' | h'
    · exact (h.sepP g hq).2.2 (h' ▸ e)
    · rw [h'] at e
      obtain rfl : H = g := Option.some.inj e
      have := h.blocks _ hq; omega
  · rcases hat with h' | h'
    · exact h.sepR g (h' ▸ hq)
    · rw [h'] at hq
      obtain rfl : H = g := Option.some.inj hq
      omega
/-- Fewer roots, of the same block. -/
theorem LS.fewer (h : LS W0 w b bP wx vr vs v0 v1 p B) {vr' : Value} {vs' : List GVal} {B' : Nat} (ht : Tail B' wx w.heap.size 28 3 vr' vs'.length (rowsOf valRow vs')) (hv : ∀ v ∈ vs', SmallV v) (hat : vr'.ownBlock = vr.ownBlock) : LS W0 w b bP wx vr' vs' v0 v1 p B' :=
  ⟨h.df, h.bw, h.box, h.wr, h.bP1, h.own, h.small, ht, hv, fun g hq => ⟨(h.sepP g hq).1, (h.sepP g hq).2.1, hat ▸ (h.sepP g hq).2.2⟩, fun g hq => h.sepR g (hat ▸ hq), h.e⟩
/-- Nothing of the state lies in block q or behind. -/
structure Ahead (w : World) (b bP : Nat) (vr v0 v1 : Value) (q : Nat) : Prop where
  bP : bP < q
  w : w.heap.size < q
  pool : ∀ g, v0.ownBlock = some g ∨ v1.ownBlock = some g → g < q
  roots : ∀ g, vr.ownBlock = some g → g < q
theorem LS.ahead (h : LS W0 w b bP wx vr vs v0 v1 p B) : Ahead w b bP vr v0 v1 wx.heap.size :=
  ⟨h.lt, by have := h.lt; have := h.bP1; omega, fun g hg => (h.blocks g hg).2, fun g hg => (h.tail.block g hg).2⟩
theorem LS.setq (h : LS W0 w b bP wx vr vs v0 v1 p B) {q : Nat} (A : Ahead w b bP vr v0 v1 q) (hk : Kept (· = q) wx wy ∧ ∀ B, B ≤ q → Below B wx wy) : LS W0 w b bP wy vr vs v0 v1 p B :=
  h.kept hk.1 (h.df.sets hk.1 (by have := A.w; omega) h.bw hk.2) (by have := A.bP; omega) (by have := A.w; omega) (fun g hg e => by have := A.pool g hg; omega) (fun g hg e => by have := A.roots g hg; omega)
end
theorem nine_row {w : World} {b : Nat} {a0 a1 a2 a3 a4 a5 a6 a7 a8 : Value} (D : RowAt w b 0 [a0, a1, a2, a3, a4, a5, a6, a7, a8]) (u0 u1 u2 u3 u4 u5 u6 u7 u8 : Value) :
    RowAt (((((((((w.setCell ⟨b, 0, none⟩ u0).setCell ⟨b, 1, none⟩ u1).setCell ⟨b, 2, none⟩ u2).setCell ⟨b, 3, none⟩ u3).setCell ⟨b, 4, none⟩ u4).setCell ⟨b, 5, none⟩ u5).setCell ⟨b, 6, none⟩ u6).setCell ⟨b, 7, none⟩ u7).setCell ⟨b, 8, none⟩ u8) b 0 [u0, u1, u2, u3, u4, u5, u6, u7, u8] :=
  ((((((((D.putAt (j := 0) (by simp) u0).putAt (j := 1) (by simp) u1).putAt (j := 2) (by simp) u2).putAt (j := 3) (by simp) u3).putAt (j := 4) (by simp) u4).putAt (j := 5) (by simp) u5).putAt (j := 6) (by simp) u6).putAt (j := 7) (by simp) u7).putAt (j := 8) (by simp) u8
theorem nine_kept {w : World} {b : Nat} (u0 u1 u2 u3 u4 u5 u6 u7 u8 : Value) :
    Kept (· = b) w (((((((((w.setCell ⟨b, 0, none⟩ u0).setCell ⟨b, 1, none⟩ u1).setCell ⟨b, 2, none⟩ u2).setCell ⟨b, 3, none⟩ u3).setCell ⟨b, 4, none⟩ u4).setCell ⟨b, 5, none⟩ u5).setCell ⟨b, 6, none⟩ u6).setCell ⟨b, 7, none⟩ u7).setCell ⟨b, 8, none⟩ u8) ∧ ∀ B, B ≤ b → Below B w (((((((((w.setCell ⟨b, 0, none⟩ u0).setCell ⟨b, 1, none⟩ u1).setCell ⟨b, 2, none⟩ u2).setCell ⟨b, 3, none⟩ u3).setCell ⟨b, 4, none⟩ u4).setCell ⟨b, 5, none⟩ u5).setCell ⟨b, 6, none⟩ u6).setCell ⟨b, 7, none⟩ u7).setCell ⟨b, 8, none⟩ u8) := by
  have h1 := sets3 (c := w) (q := b) (i := 0) (j := 1) (k := 2) (x := u0) (y := u1) (z := u2)
  have h2 := sets3 (c := ((w.setCell ⟨b, 0, none⟩ u0).setCell ⟨b, 1, none⟩ u1).setCell ⟨b, 2, none⟩ u2) (q := b) (i := 3) (j := 4) (k := 5) (x := u3) (y := u4) (z := u5)
  have h3 := sets3 (c := (((((w.setCell ⟨b, 0, none⟩ u0).setCell ⟨b, 1, none⟩ u1).setCell ⟨b, 2, none⟩ u2).setCell ⟨b, 3, none⟩ u3).setCell ⟨b, 4, none⟩ u4).setCell ⟨b, 5, none⟩ u5) (q := b) (i := 6) (j := 7) (k := 8) (x := u6) (y := u7) (z := u8)
  have z1 := (h1.2 0 (Nat.zero_le _)).size
  have z2 := (h2.2 0 (Nat.zero_le _)).size
  exact ⟨h1.1.trans z1 (h2.1.trans z2 h3.1), fun B hB => ((h1.2 B hB).trans (h2.2 B hB)).trans (h3.2 B hB)⟩
theorem Wr.nine {w : World} {b : Nat} (h : Wr w b 0 9) (u0 u1 u2 u3 u4 u5 u6 u7 u8 : Value) : Wr (((((((((w.setCell ⟨b, 0, none⟩ u0).setCell ⟨b, 1, none⟩ u1).setCell ⟨b, 2, none⟩ u2).setCell ⟨b, 3, none⟩ u3).setCell ⟨b, 4, none⟩ u4).setCell ⟨b, 5, none⟩ u5).setCell ⟨b, 6, none⟩ u6).setCell ⟨b, 7, none⟩ u7).setCell ⟨b, 8, none⟩ u8) b 0 9 :=
  ((((((((h.set 0 _).set 1 _).set 2 _).set 3 _).set 4 _).set 5 _).set 6 _).set 7 _).set 8 _

end Go.Proofs.Ytajbgkpjmgmdhaa
