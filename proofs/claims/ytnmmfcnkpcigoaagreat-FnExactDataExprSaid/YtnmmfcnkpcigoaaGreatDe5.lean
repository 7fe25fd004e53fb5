/- Parts of the proof, merged: Fill. -/
import Derived.Test.YtnmmfcnkpcigoaaGreatDe4
/- A slice that the call makes and fills element by element. No program is named here. -/
namespace Go.Proofs.YtnmmfcnkpcigoaaGreat
open Go.RowKit
set_option linter.unusedVariables false
set_option linter.unusedSimpArgs false

theorem kept_storeRow {a : World} (g : Nat) : ∀ (r : List Value) {w : World} (off : Nat), Kept (· = g) a w → Kept (· = g) a (storeRow w g off r)
  | [], _, _, h => h
  | c :: r, w, off, h => kept_storeRow g r (off + 1) (h.set (p := ⟨g, off, none⟩) rfl c)
/-- Cells stored anew in a slice that the call owns. -/
theorem own_store_cells {w : World} {base : Nat} {e : TypeId} {sz g cap n off : Nat} {cs r : List Value} (h : w.ownsRow base e sz (.slice (some ⟨g, 0, none⟩) n cap) n cs) (ho : off + r.length ≤ n * sz) :
    (storeRow w g off r).ownsRow base e sz (.slice (some ⟨g, 0, none⟩) n cap) n (cs.take off ++ r ++ cs.drop (off + r.length)) := by
  have hl := h.1
  refine ⟨by simp [hl]; omega, ?_⟩
  rcases h.2 with ⟨hv, _⟩ | ⟨g', cap', cur, hv, h1, h2, h3, h4, h5, h6⟩
  · cases hv
  · obtain ⟨rfl, rfl⟩ : g = g' ∧ cap = cap' := by injection hv with e1 e2 e3; injection e1 with e1; injection e1 with e1; exact ⟨e1, e3⟩
    have hns : n * sz ≤ cap * sz := Nat.mul_le_mul_right _ h3
    obtain ⟨cur', c1, c2, c3⟩ := storeRow_block g r w off cur e h2 (by omega)
    refine .inr ⟨g, cap, cur', rfl, h1, c1, h3, h4, by rw [c2, h5], ?_⟩
    have hlc : cur.toList.length = cap * sz := by simp [h5]
    rw [c3, ← h6]
    rw [List.take_take, Nat.min_eq_left (by omega), List.drop_take]
    rw [List.take_append, List.take_of_length_le (by simp; omega)]
    congr 2
    simp; omega

def OwnFill {α : Type} (e : TypeId) (sz : Nat) (f : α → List Value) (lo : Nat) (w : World) (g n k : Nat) (x : List α) : Prop :=
  ∃ cs, w.ownsRow lo e sz (.slice (some ⟨g, 0, none⟩) n n) n cs ∧ cs.take (k * sz) = rowsOf f (x.take k)
section
variable {α : Type} {R : Reading α} {sz : Nat} {f : α → List Value} {wf : α → Prop} {e : TypeId} {lo g n k : Nat} {w w' : World} {x : List α}
theorem OwnFill.made {cs : List Value} (h : w.ownsRow lo e sz (.slice (some ⟨g, 0, none⟩) n n) n cs) (x : List α) : OwnFill e sz f lo w g n 0 x := ⟨cs, h, by simp [rowsOf]⟩
theorem OwnFill.below (h : OwnFill e sz f lo w g n k x) (hb : Below w.heap.size w w') : OwnFill e sz f lo w' g n k x := ⟨h.choose, own_below h.choose_spec.1 hb, h.choose_spec.2⟩
theorem OwnFill.arr (h : OwnFill e sz f lo w g n k x) (hn : 0 < n) : g < w.heap.size ∧ lo ≤ g ∧ Arr w g (n * sz) := by
  obtain ⟨cs, h, _⟩ := h
  obtain ⟨g', cap, hv, h1, h2, _, _, _, h3⟩ := own_cells h hn
  obtain rfl : g = g' := by injection hv with e1 e2 e3; injection e1 with e1; injection e1
  exact ⟨h2, h1, fun j hj => by simpa using h3 j hj⟩
theorem OwnFill.step (F : Flat R sz f wf) (h : OwnFill e sz f lo w g n k x) (hk : k < n) {p : α} {off : Nat} (ho : off = k * sz) (hx : x[k]? = some p) : OwnFill e sz f lo (storeRow w g off (f p)) g n (k + 1) x := by
  subst ho
  obtain ⟨cs, h, he⟩ := h
  have hks : k * sz + sz ≤ n * sz := by rw [← Nat.succ_mul]; exact Nat.mul_le_mul_right _ hk
  refine ⟨_, own_store_cells h (by rw [F.len]; exact hks), ?_⟩
  rw [take_snoc' hx, rowsOf_append, rowsOf_one, ← he]
  have hl := h.1
  have hA : (cs.take (k * sz) ++ f p).length = (k + 1) * sz := by rw [List.length_append, List.length_take, hl, F.len, Nat.succ_mul]; omega
  rw [List.take_append_of_le_length (by omega), List.take_of_length_le (by omega)]
theorem OwnFill.full (F : Flat R sz f wf) (h : OwnFill e sz f lo w g n n x) (hn : n = x.length) (hwf : ∀ p ∈ x, wf p) : OwnF e sz f wf lo w (.slice (some ⟨g, 0, none⟩) n n) x := by
  subst hn
  obtain ⟨cs, h, he⟩ := h
  rw [List.take_of_length_le (by rw [h.1]; exact Nat.le_refl _), List.take_of_length_le (Nat.le_refl _)] at he
  subst he
  exact ⟨h, hwf⟩
end
theorem OwnF.set_other {α : Type} {sz : Nat} {f : α → List Value} {wf : α → Prop} {e : TypeId} {lo : Nat} {w : World} {v : Value} {xs : List α} (h : OwnF e sz f wf lo w v xs) {p : Addr} (hp : ∀ g, v.ownBlock = some g → g ≠ p.block) (u : Value) : OwnF e sz f wf lo (w.setCell p u) v xs :=
  h.kept (S := (· = p.block)) (Kept.set (S := (· = p.block)) (Kept.refl _ _) rfl _) hp

theorem Wr.kept {S : Nat → Prop} {w w' : World} {b off N : Nat} (h : Wr w b off N) (hk : Kept S w w') (hS : ¬ S b) : Wr w' b off N := fun j hj =>
  let ⟨c, h1, h2⟩ := h j hj
  have hb := hk b (World.block_lt_of_cell? w _ h1) hS
  ⟨c, (World.cell?_of_block (w := w) (a := ⟨b, off + j, none⟩) hb).trans h1, (World.frozen?_of_block (w := w) (a := ⟨b, off + j, none⟩) hb).trans h2⟩
theorem RowAt.kept {S : Nat → Prop} {w w' : World} {b off : Nat} {r : List Value} (h : RowAt w b off r) (hk : Kept S w w') (hS : ¬ S b) : RowAt w' b off r := fun j c hc => by
  rw [World.cell?_of_block (w := w) (a := ⟨b, off + j, none⟩) (hk b (World.block_lt_of_cell? w _ (h j c hc)) hS)]
  exact h j c hc

theorem stored2' {W : World} {b : Nat} {y : Value} {u v : Value} (h0 : W.cell? ⟨b, 0, none⟩ = some u) (h1 : W.cell? ⟨b, 1, none⟩ = some v) :
    (W.setCell ⟨b, 1, none⟩ y).cell? ⟨b, 0, none⟩ = some u ∧ (W.setCell ⟨b, 1, none⟩ y).cell? ⟨b, 1, none⟩ = some y :=
  ⟨(cell_setCell_ne W b 1 0 y (by omega)).trans h0, cell_setCell_eq _ b 1 y h1⟩
theorem RowAt.of2 {W : World} {b : Nat} {u v : Value} (h0 : W.cell? ⟨b, 0, none⟩ = some u) (h1 : W.cell? ⟨b, 1, none⟩ = some v) : RowAt W b 0 [u, v] := fun j c hc => by
  rcases j with _ | _ | j
  · obtain rfl : u = c := by simpa using hc
    exact h0
  · obtain rfl : v = c := by simpa using hc
    exact h1
  · simp at hc

end Go.Proofs.YtnmmfcnkpcigoaaGreat
