/- Parts of the proof, merged: Kept, Own, DNode, FindDNode, Ends, Ends2, Ends3. -/
import Derived.Deep.AppendLies
import Derived.Test.YtklfepnokidnaaaSc7
/- What may be written, what is kept, what is written; digits. No program is named here. -/
namespace Go.Proofs.Ytklfepnokidnaaa
open Go.RowKit
set_option linter.unusedVariables false
set_option linter.unusedSimpArgs false

/-- The digits of n, ahead of s. -/
def dig (n : Nat) : UInt8 := UInt8.ofNat (48 + n % 10)
def digs (n : Nat) (s : ByteArray) : ByteArray := if n = 0 then s else digs (n / 10) (⟨#[dig n]⟩ ++ s)
def markT (n : Nat) : ByteArray := if n = 0 then ⟨#[109, 48]⟩ else ⟨#[109]⟩ ++ digs n ⟨#[]⟩
theorem digs_zero (s : ByteArray) : digs 0 s = s := by rw [digs]; rfl
theorem digs_pos {n : Nat} (h : n ≠ 0) (s : ByteArray) : digs n s = digs (n / 10) (⟨#[dig n]⟩ ++ s) := by conv => lhs; rw [digs]; rw [if_neg h]

/-! ### What may be written, and what is written -/
/-- The blocks outside S that w has are the same in w'. -/
def Kept (S : Nat → Prop) (w w' : World) : Prop := ∀ k, k < w.heap.size → ¬ S k → w'.heap[k]? = w.heap[k]?
theorem Kept.refl (S : Nat → Prop) (w : World) : Kept S w w := fun _ _ _ => rfl
theorem Kept.trans {S : Nat → Prop} {a b c : World} (h : Kept S a b) (hs : a.heap.size ≤ b.heap.size) (h' : Kept S b c) : Kept S a c := fun k h1 h2 => (h' k (by omega) h2).trans (h k h1 h2)
theorem Kept.below {S : Nat → Prop} {a b : World} (h : Below a.heap.size a b) : Kept S a b := fun k h1 _ => h.block k h1
theorem Kept.set {S : Nat → Prop} {a b : World} (h : Kept S a b) {p : Addr} (hp : S p.block) (u : Value) : Kept S a (b.setCell p u) := fun k h1 h2 =>
  (Below.heap_setCell _ _ _ _ (fun e => h2 (by rw [e]; exact hp))).trans (h k h1 h2)

/-- N cells from off on in block b may be written. -/
def Wr (w : World) (b off N : Nat) : Prop := ∀ j, j < N → ∃ c, w.cell? ⟨b, off + j, none⟩ = some c ∧ w.frozen? ⟨b, off + j, none⟩ = false
theorem Wr.below {w w' : World} {b off N : Nat} (h : Wr w b off N) (hb : Below w.heap.size w w') : Wr w' b off N := fun j hj =>
  let ⟨c, h1, h2⟩ := h j hj
  ⟨c, cell_below hb h1, by rw [hb.frozen (p := ⟨b, off + j, none⟩) (World.block_lt_of_cell? w _ h1), h2]⟩
theorem Wr.set {w : World} {b off N : Nat} (h : Wr w b off N) (o : Nat) (u : Value) : Wr (w.setCell ⟨b, o, none⟩ u) b off N := fun j hj => by
  obtain ⟨c, h1, h2⟩ := h j hj
  by_cases e : o = off + j
  · subst e; exact ⟨u, cell_setCell_eq _ _ _ _ h1, by rw [frozen_setCell, h2]⟩
  · exact ⟨c, by rw [cell_setCell_ne _ _ _ _ _ e, h1], by rw [frozen_setCell, h2]⟩
/-- The N cells from off on in block b are f 0, f 1, .. -/
def Mk (w : World) (b off N : Nat) (f : Nat → Value) : Prop := ∀ j, j < N → w.cell? ⟨b, off + j, none⟩ = some (f j)
theorem Mk.below {w w' : World} {b off N : Nat} {f : Nat → Value} (h : Mk w b off N f) (hb : Below w.heap.size w w') : Mk w' b off N f := fun j hj => cell_below hb (h j hj)
theorem Mk.kept {S : Nat → Prop} {w w' : World} {b off N : Nat} {f : Nat → Value} (h : Mk w b off N f) (hk : Kept S w w') (hS : ¬ S b) : Mk w' b off N f := fun j hj => by
  rw [World.cell?_of_block (w := w) (a := ⟨b, off + j, none⟩) (hk b (World.block_lt_of_cell? w _ (h j hj)) hS)]
  exact h j hj
theorem Mk.step {w : World} {b off N k : Nat} {f : Nat → Value} (h : Mk w b off k f) (hA : Wr w b off N) (hk : k < N) {u : Value} (hu : u = f k) : Mk (w.setCell ⟨b, off + k, none⟩ u) b off (k + 1) f := fun j hj => by
  by_cases e : j = k
  · subst e
    obtain ⟨c, h1, _⟩ := hA j hk
    rw [cell_setCell_eq _ _ _ _ h1, hu]
  · rw [cell_setCell_ne _ _ _ _ _ (by omega)]
    exact h j (by omega)

end Go.Proofs.Ytklfepnokidnaaa

/- Slices that the call owns, grown by append. -/
namespace Go.Proofs.Ytklfepnokidnaaa
open Go.RowKit
set_option linter.unusedVariables false
set_option linter.unusedSimpArgs false

theorem own_below {w w' : World} {base : Nat} {e : TypeId} {size : Nat} {v : Value} {n : Nat} {xs : List Value} (h : w.ownsRow base e size v n xs) (hb : Below w.heap.size w w') : w'.ownsRow base e size v n xs := by
  refine ⟨h.1, ?_⟩
  rcases h.2 with h0 | ⟨g, cap, cur, hv, h1, h2, h3⟩
  · exact .inl h0
  · refine .inr ⟨g, cap, cur, hv, h1, ?_, h3⟩
    have hlt : g < w.heap.size := by
      rcases Nat.lt_or_ge g w.heap.size with hlt | hge
      · exact hlt
      · rw [Array.getElem?_eq_none hge] at h2; cases h2
    rw [hb.block g hlt, h2]
theorem own_kept {S : Nat → Prop} {w w' : World} {base : Nat} {e : TypeId} {size : Nat} {v : Value} {n : Nat} {xs : List Value} (h : w.ownsRow base e size v n xs) (hk : Kept S w w') (hS : ∀ g, v.ownBlock = some g → ¬ S g) : w'.ownsRow base e size v n xs := by
  refine ⟨h.1, ?_⟩
  rcases h.2 with h0 | ⟨g, cap, cur, hv, h1, h2, h3⟩
  · exact .inl h0
  · refine .inr ⟨g, cap, cur, hv, h1, ?_, h3⟩
    have hlt : g < w.heap.size := by
      rcases Nat.lt_or_ge g w.heap.size with hlt | hge
      · exact hlt
      · rw [Array.getElem?_eq_none hge] at h2; cases h2
    rw [hk g hlt (hS g (by rw [hv]; rfl)), h2]
theorem own_none {w : World} {base : Nat} {e : TypeId} {size : Nat} : w.ownsRow base e size (.slice none 0 0) 0 [] := ⟨by simp, .inl ⟨rfl, rfl⟩⟩
theorem own_cells {w : World} {base : Nat} {e : TypeId} {size : Nat} {v : Value} {n : Nat} {xs : List Value} (h : w.ownsRow base e size v n xs) (hn : 0 < n) :
    ∃ g cap, v = .slice (some ⟨g, 0, none⟩) n cap ∧ base ≤ g ∧ g < w.heap.size ∧ n ≤ cap ∧ cap ≤ 9223372036854775807 ∧ RowAt w g 0 xs ∧ Wr w g 0 (n * size) := by
  rcases h.2 with ⟨_, h0⟩ | ⟨g, cap, cur, hv, h1, h2, h3, h4, h5, h6⟩
  · omega
  have hlt : g < w.heap.size := by
    rcases Nat.lt_or_ge g w.heap.size with hlt | hge
    · exact hlt
    · rw [Array.getElem?_eq_none hge] at h2; cases h2
  refine ⟨g, cap, hv, h1, hlt, h3, by unfold maxLen at h4; omega, fun j c hc => ?_, fun j hj => ?_⟩
  · rw [cell_of_row w g _ cur e (0, 0) h2, Nat.zero_add, ← Array.getElem?_toList]
    rw [← h6, List.getElem?_take] at hc
    split at hc
    · exact hc
    · cases hc
  · have hjc : j < cur.size := by
      rw [h5]
      exact Nat.lt_of_lt_of_le hj (Nat.mul_le_mul_right _ h3)
    refine ⟨cur[j], ?_, ?_⟩
    · rw [cell_of_row w g _ cur e (0, 0) h2, Nat.zero_add, Array.getElem?_eq_getElem hjc]
    · simp [World.frozen?, h2]
theorem own_sl {α : Type} {R : Reading α} {w : World} {base : Nat} {e : TypeId} {v : Value} {f : α → Value} (xs : List α) (h : w.ownsRow base e 1 v xs.length (xs.map f)) (hf : ∀ x ∈ xs, R base w [f x] x) : Sl R 1 base w v xs := by
  by_cases h0 : 0 < xs.length
  · obtain ⟨g, cap, rfl, h1, h2, h3, h4, h5, h6⟩ := own_cells h h0
    refine ⟨_, cap, rfl, h3, h4, fun _ => ⟨g, 0, h1, rfl, fun i x hx => ⟨[f x], hf x (List.mem_of_getElem? hx), fun j c hc => ?_⟩⟩⟩
    cases j with
    | zero =>
      simp at hc
      subst hc
      have := h5 i (f x) (by rw [List.getElem?_map, hx]; rfl)
      simpa using this
    | succ j => simp at hc
  · have h1 : xs = [] := List.length_eq_zero_iff.1 (by omega)
    subst h1
    rcases h.2 with ⟨rfl, _⟩ | ⟨g, cap, cur, rfl, h1, h2, h3, h4, h5⟩
    · exact Sl.nil
    · exact ⟨_, cap, rfl, h3, by unfold maxLen at h4; omega, fun h => absurd h (by simp)⟩
theorem own_base {w : World} {base : Nat} {e : TypeId} {size : Nat} {v : Value} {n : Nat} {xs : List Value} (h : w.ownsRow base e size v n xs) : ∀ g, v.ownBlock = some g → base ≤ g ∧ g < w.heap.size := fun g hg => by
  rcases h.2 with ⟨rfl, _⟩ | ⟨g', cap, cur, rfl, h1, h2, h3⟩
  · cases hg
  · obtain rfl : g' = g := by simpa [Value.ownBlock] using hg
    refine ⟨h1, ?_⟩
    rcases Nat.lt_or_ge g' w.heap.size with hlt | hge
    · exact hlt
    · rw [Array.getElem?_eq_none hge] at h2; cases h2
theorem kept_grown {w w' : World} {row : Option Nat} (h : w.grownBy w' row) : Kept (fun k => some k = row) w w' := fun k h1 h2 => h.block k h1 h2
theorem below_grown {w w1 w' : World} {base : Nat} {e : TypeId} {size : Nat} {v : Value} {n : Nat} {xs : List Value} (h : Below base w w1) (hb : base ≤ w1.heap.size) (hO : w1.ownsRow base e size v n xs) (hg : w1.grownBy w' v.ownBlock) : Below base w w' :=
  h.grown hg hb (fun k hk => (own_base hO k hk).1)
theorem kept_of {w w1 w' : World} {row : Option Nat} (h : w1.grownBy w' row) (hb : Below w.heap.size w w1) : Kept (fun k => some k = row) w w' := (Kept.below hb).trans hb.size (kept_grown h)
theorem below_grown2 {w wr w1 w' : World} {base : Nat} {e : TypeId} {size : Nat} {v : Value} {n : Nat} {xs : List Value} (hg : w1.grownBy w' v.ownBlock) (hB : Below wr.heap.size wr w1) (h : Below base w wr) (hb : base ≤ wr.heap.size) (hO : wr.ownsRow base e size v n xs) : Below base w w' :=
  below_grown (h.trans (hB.mono hb)) (Nat.le_trans hb hB.size) (own_below hO hB) hg
theorem heap_alloc_new' (w : World) (o : Obj) (k : Nat) (hk : k = w.heap.size) : (w.alloc o).heap[k]? = some o := by subst hk; exact heap_alloc_new w o
/-- A block made now, owned. -/
theorem own_new (w : World) (cs : Array Value) (e : TypeId) (size n : Nat) (h : cs.size = n * size) (hm : n ≤ maxLen) (base : Nat) (hb : base ≤ w.heap.size) : (w.alloc (.cells cs e)).ownsRow base e size (.slice (some ⟨w.heap.size, 0, none⟩) n n) n cs.toList :=
  ⟨by simpa using h, .inr ⟨w.heap.size, n, cs, rfl, hb, heap_alloc_new w _, Nat.le_refl _, hm, h, by rw [← h]; exact List.take_of_length_le (by simp)⟩⟩

end Go.Proofs.Ytklfepnokidnaaa

/- A value's node: when it is right; the program's test. -/
namespace Go.Proofs.Ytklfepnokidnaaa
open Go.RowKit
set_option linter.unusedVariables false
set_option linter.unusedSimpArgs false
attribute [local go_sem] Ext.cell

def kindAt (l : List GDNode) (k : Int) : Int := if 0 ≤ k then (l[k.toNat]?.map (·.kind)).getD 0 else 0
def pairOf (l : List GDNode) (ks : List Int) : Bool := match ks with
  | [k] => kindAt l k == 5
  | _ => false
def nodeOk (l : List GDNode) (x : GDNode) : Bool :=
  if x.kind = 3 then ((x.kids.length : Int) == 0) && (x.s.toList.isEmpty && decide (-4611686018427387904 ≤ x.n ∧ x.n ≤ 4611686018427387903))
  else if x.kind = 2 then ((x.kids.length : Int) == 0) && (x.n == 0)
  else if x.kind = 6 then ((x.kids.length : Int) == 0) && ((x.n == 0) && x.s.toList.isEmpty)
  else if x.kind = 5 then ((x.kids.length : Int) == 2) && ((x.n == 0) && x.s.toList.isEmpty)
  else if x.kind = 4 then (x.n == 0) && conShape x.s x.kids.length (pairOf l x.kids)
  else false

end Go.Proofs.Ytklfepnokidnaaa

/- slices.ContainsFunc over []impl.DNode, with a closure that answers for each element and may make memory. -/
namespace Go.Proofs.Ytklfepnokidnaaa
open Go.RowKit
set_option linter.unusedVariables false
set_option linter.unusedSimpArgs false
attribute [local go_sem] Ext.cell

end Go.Proofs.Ytklfepnokidnaaa

/- Where the value at a place ends: plain law, and the reference's walk. -/
namespace Go.Proofs.Ytklfepnokidnaaa
open Go.RowKit
set_option linter.unusedVariables false
set_option linter.unusedSimpArgs false
attribute [local go_sem] Ext.cell

def kidsEnd (E : Nat → Int) : Int → List Int → Int
  | next, [] => next
  | next, k :: ks => if k ≠ next then -1 else if E k.toNat < 0 then -1 else kidsEnd E (E k.toNat) ks
def ends (l : List GDNode) : Nat → Nat → Int
  | 0, _ => -1
  | f + 1, i => match l[i]? with
    | none => -1
    | some n => kidsEnd (ends l f) (i + 1) n.kids

theorem kidsEnd_range {E : Nat → Int} {L : Int} (hE : ∀ k, 0 ≤ E k → (k : Int) + 1 ≤ E k ∧ E k ≤ L) : ∀ (ks : List Int) (nx : Int), 0 ≤ nx → nx ≤ L → 0 ≤ kidsEnd E nx ks → nx ≤ kidsEnd E nx ks ∧ kidsEnd E nx ks ≤ L
  | [], nx, h0, hL, h => ⟨Int.le_refl _, hL⟩
  | k :: ks, nx, h0, hL, h => by
    unfold kidsEnd at h ⊢
    split at h
    · omega
    · split at h
      · omega
      · rename_i h1 h2
        have e : k = nx := by omega
        have h3 := hE k.toNat (by omega)
        have h4 := kidsEnd_range hE ks (E k.toNat) (by omega) h3.2 h
        rw [if_neg h1, if_neg h2]
        omega
theorem ends_range (l : List GDNode) : ∀ (f i : Nat), 0 ≤ ends l f i → (i : Int) + 1 ≤ ends l f i ∧ ends l f i ≤ l.length
  | 0, i, h => by simp [ends] at h
  | f + 1, i, h => by
    unfold ends at h ⊢
    cases hi : l[i]? with
    | none => rw [hi] at h; simp at h
    | some n =>
      rw [hi] at h
      have hlt := (List.getElem?_eq_some_iff.1 hi).1
      exact kidsEnd_range (ends_range l f) n.kids (i + 1) (by omega) (by omega) h

end Go.Proofs.Ytklfepnokidnaaa

/- The reference's l07End. -/
namespace Go.Proofs.Ytklfepnokidnaaa
open Go.RowKit
set_option linter.unusedVariables false
set_option linter.unusedSimpArgs false
attribute [local go_sem] Ext.cell

theorem ends_out {l : List GDNode} {i : Nat} (h : l.length ≤ i) : ∀ f, ends l f i = -1
  | 0 => rfl
  | f + 1 => by unfold ends; rw [List.getElem?_eq_none h]

end Go.Proofs.Ytklfepnokidnaaa

/- The reference's l07End, in range. -/
namespace Go.Proofs.Ytklfepnokidnaaa
open Go.RowKit
set_option linter.unusedVariables false
set_option linter.unusedSimpArgs false
attribute [local go_sem] Ext.cell

end Go.Proofs.Ytklfepnokidnaaa
