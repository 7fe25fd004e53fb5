/- What a draw leaves alone: more on the cursor. -/
import Derived.Test.YtpblhonnknmjjaaDraw
namespace Go.Proofs.Ytpblhonnknmjjaa
open Go.RowKit
set_option linter.unusedVariables false
set_option linter.unusedSimpArgs false

theorem Cur.after {W0 w w' : World} {b : Nat} (h : Cur W0 w b) (hb : Below w.heap.size w w') : Cur W0 w' b :=
  h.kept (Kept.below hb (S := fun _ => False)) (fun h => h) (h.below.trans (hb.mono h.below.size))
theorem DF.after {W0 a c d : World} {b : Nat} (h : DF W0 b a c) (hb : Below c.heap.size c d) : DF W0 b a d :=
  ⟨h.cur.after hb, h.kept.trans h.size (Kept.below hb), Nat.le_trans h.size hb.size⟩
theorem DF.box {W0 a c : World} {b : Nat} (h : DF W0 b a c) (o : Obj) : DF W0 b a (c.alloc o) := h.after (Below.alloc (Below.refl _ _) (Nat.le_refl _) _)
theorem DF.draws {W0 a c : World} {b : Nat} (h : DF W0 b a c) : DF W0 b a c.drew := h.after (Below.refl _ c).drew
/-- A store to a block made since a. -/
theorem DF.put {W0 a c : World} {b : Nat} (h : DF W0 b a c) {p : Addr} (hp : a.heap.size ≤ p.block) (hb : b < a.heap.size) (hW : W0.heap.size ≤ a.heap.size) (u : Value) : DF W0 b a (c.setCell p u) :=
  ⟨h.cur.kept (S := (· = p.block)) (Kept.set (S := (· = p.block)) (Kept.refl _ _) rfl u) (fun e => by omega) (h.cur.below.setCell (by omega) u),
   fun k h1 h2 => (Below.heap_setCell _ _ _ _ (by omega)).trans (h.kept k h1 h2), by simpa [World.setCell] using h.size⟩
/-- Four cells of a box stored anew. -/
def put4 (w : World) (q : Nat) (x y z u : Value) : World := (((w.setCell ⟨q, 0, none⟩ x).setCell ⟨q, 1, none⟩ y).setCell ⟨q, 2, none⟩ z).setCell ⟨q, 3, none⟩ u
theorem put4_cells {w : World} {q : Nat} {r : List Value} {x y z u : Value} (h : RowAt w q 0 r) (hr : r.length = 4) : RowAt (put4 w q x y z u) q 0 [x, y, z, u] := by
  have h1 := (((h.putAt (j := 0) (by omega) x).putAt (j := 1) (by simp; omega) y).putAt (j := 2) (by simp; omega) z).putAt (j := 3) (by simp; omega) u
  match r, hr with
  | [_, _, _, _], _ => exact h1
theorem put4_kept (w : World) (q : Nat) (x y z u : Value) : Kept (· = q) w (put4 w q x y z u) :=
  Kept.set (S := (· = q)) (p := ⟨q, 3, none⟩) (Kept.set (S := (· = q)) (p := ⟨q, 2, none⟩) (Kept.set (S := (· = q)) (p := ⟨q, 1, none⟩) (Kept.set (S := (· = q)) (p := ⟨q, 0, none⟩) (Kept.refl _ _) rfl _) rfl _) rfl _) rfl _
theorem DF.put4 {W0 a c : World} {b q : Nat} (h : DF W0 b a c) (hq : a.heap.size ≤ q) (hb : b < a.heap.size) (hW : W0.heap.size ≤ a.heap.size) (x y z u : Value) : DF W0 b a (put4 c q x y z u) :=
  (((h.put (p := ⟨q, 0, none⟩) hq hb hW x).put (p := ⟨q, 1, none⟩) hq hb hW y).put (p := ⟨q, 2, none⟩) hq hb hW z).put (p := ⟨q, 3, none⟩) hq hb hW u
/-- A box that was made at some point of a region's order, behind a draw. -/
theorem box_at {W0 W w3 w5 : World} {T : TypeId} {cs : Array Value} {b : Nat} (D : DF W0 b W w5) (h : W.heap = (w3.alloc (.cells cs T)).heap) (hb : b < w3.heap.size) : RowAt w5 w3.heap.size 0 cs.toList ∧ Wr w5 w3.heap.size 0 cs.size := by
  have h1 : RowAt W w3.heap.size 0 cs.toList := fun j c hc => by
    have := RowAt.box w3 cs T j c hc
    unfold World.cell? at this ⊢
    rw [h]; exact this
  have h2 : Wr W w3.heap.size 0 cs.size := fun j hj => by
    obtain ⟨c, h3, h4⟩ := Wr.box w3 cs T j hj
    refine ⟨c, ?_, ?_⟩
    · unfold World.cell? at h3 ⊢; rw [h]; exact h3
    · unfold World.frozen? at h4 ⊢; rw [h]; exact h4
  exact ⟨h1.kept D.kept (by omega), h2.kept D.kept (by omega)⟩
end Go.Proofs.Ytpblhonnknmjjaa
