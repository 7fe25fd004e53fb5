/- l20Any: a drawn pool, perhaps changed. -/
import Derived.Test.YtajbgkpjmgmdhaaDraw6
namespace Go.Proofs.Ytajbgkpjmgmdhaa
open Go.RowKit
set_option linter.unusedVariables false
set_option linter.unusedSimpArgs false
attribute [local go_sem] Ext.cell

theorem Tail.lower {B : Nat} {w : World} {base base' : Nat} {e : TypeId} {size : Nat} {v : Value} {n : Nat} {xs : List Value} (h : Tail B w base e size v n xs) (hb : base' ≤ base) : Tail B w base' e size v n xs := by
  refine ⟨h.1, ?_⟩
  rcases h.2 with h2 | ⟨g, o, cap, pre, ho, hv, hp, h2⟩
  · exact .inl h2
  · exact .inr ⟨g, o, cap, pre, ho, hv, hp, own_lo h2 hb⟩
/-- Free places: the tail of a row, or none at all. -/
def TailI (B : Nat) (w : World) (lo : Nat) (v : Value) (xs : List Int) : Prop :=
  Tail B w lo 3 1 v xs.length (rowsOf intRow xs) ∨ (xs = [] ∧ ∃ g o c, v = .slice (some ⟨g, o, none⟩) 0 c ∧ c ≤ 9223372036854775807 ∧ lo ≤ g ∧ g < w.heap.size)
section
variable {B lo : Nat} {w w' : World} {v : Value} {xs : List Int}
theorem TailI.block (h : TailI B w lo v xs) : ∀ g, v.ownBlock = some g → lo ≤ g ∧ g < w.heap.size := fun g hg => by
  rcases h with h | ⟨_, g', o, c, rfl, _, h1, h2⟩
  · exact h.block g hg
  · obtain rfl : g' = g := by simpa [Value.ownBlock] using hg
    exact ⟨h1, h2⟩
theorem TailI.kept {S : Nat → Prop} (h : TailI B w lo v xs) (hk : Kept S w w') (hz : w.heap.size ≤ w'.heap.size) (hS : ∀ g, v.ownBlock = some g → ¬ S g) : TailI B w' lo v xs := by
  rcases h with h | ⟨h0, g, o, c, rfl, h1, h2, h3⟩
  · exact .inl (h.kept hk hS)
  · exact .inr ⟨h0, g, o, c, rfl, h1, h2, by omega⟩
theorem TailI.sl (h : TailI B w lo v xs) (h64 : ∀ x ∈ xs, I64 x) : Sl IntR 1 lo w v xs := by
  rcases h with h | ⟨rfl, g, o, c, rfl, h1, h2, h3⟩
  · exact h.sl flatInt h64
  · exact ⟨_, c, rfl, Nat.zero_le _, h1, fun h => absurd h (by simp)⟩
theorem TailI.form (h : TailI B w lo v xs) : ∃ a c, v = .slice a xs.length c := by
  rcases h with h | ⟨rfl, g, o, c, rfl, h1, h2, h3⟩
  · exact h.form
  · exact ⟨_, _, rfl⟩
end
/-- A pool of small cells; its free places may begin behind a row's head. -/
structure PAny (B : Nat) (lo : Nat) (w : World) (v0 v1 : Value) (p : GPool) : Prop where
  cells : OwnCells lo w v0 p.cells
  free : TailI B w lo v1 p.free
  f64 : ∀ x ∈ p.free, I64 x
  apart : ∀ g, v0.ownBlock = some g → v1.ownBlock ≠ some g
  len : p.cells.length ≤ 10
  small : ∀ c ∈ p.cells, SmallC c
  many : p.free.length ≤ 8001
section
variable {B lo : Nat} {w w' : World} {v0 v1 : Value} {p : GPool}
theorem PAny.R (h : PAny B lo w v0 v1 p) : GPool.R lo w [v0, v1] p := ⟨v0, v1, rfl, trivial, h.cells.sl flatCell, h.free.sl h.f64⟩
theorem PAny.kept {S : Nat → Prop} (h : PAny B lo w v0 v1 p) (hk : Kept S w w') (hz : w.heap.size ≤ w'.heap.size) (h0 : ∀ g, v0.ownBlock = some g → ¬ S g) (h1 : ∀ g, v1.ownBlock = some g → ¬ S g) : PAny B lo w' v0 v1 p :=
  ⟨h.cells.kept hk h0, h.free.kept hk hz h1, h.f64, h.apart, h.len, h.small, h.many⟩
theorem PAny.below (h : PAny B lo w v0 v1 p) (hb : Below w.heap.size w w') : PAny B lo w' v0 v1 p := h.kept (S := fun _ => False) (Kept.below hb) hb.size (fun _ _ h => h) (fun _ _ h => h)
theorem PAny.blocks (h : PAny B lo w v0 v1 p) : ∀ g, v0.ownBlock = some g ∨ v1.ownBlock = some g → lo ≤ g ∧ g < w.heap.size := fun g hg => hg.elim (h.cells.base g) (h.free.block g)
theorem PAny.of (h : OwnPool lo w v0 v1 p) (hs : PSmall p) : PAny B lo w v0 v1 p := ⟨h.cells, .inl (Tail.of h.free.1), h.free.2, h.apart, hs.len, hs.cells, by have := hs.free; omega⟩
theorem PAny.bulk (h : PAny B lo w v0 v1 p) : p.bulk ≤ 1048576 := by
  have h1 : ∀ l : List GCell, (∀ c ∈ l, SmallC c) → bulkS GCell.bulk l ≤ (l.length : Int) * 16 := by
    intro l
    induction l with
    | nil => intro _; simp [bulkS]
    | cons c l ih =>
      intro hl
      have h2 := ih (fun c hc => hl c (List.mem_cons_of_mem _ hc))
      obtain ⟨_, h3, h4, h5⟩ := hl c (by simp)
      simp only [bulkS, List.length_cons, List.map_cons, List.sum_cons, GCell.bulk] at h2 ⊢
      omega
  have h2 := h1 p.cells h.small
  have h3 := h.len; have h4 := h.many
  simp only [GPool.bulk]
  omega
end
/-- The state: the result's box at w's end, the pool's box bP. -/
structure AS (W0 w : World) (b bP : Nat) (wx : World) (v0 v1 : Value) (p : GPool) (B : Nat) : Prop where
  df : DF W0 b w wx
  bw : b < w.heap.size
  box : RowAt wx bP 0 [v0, v1]
  wr : Wr wx bP 0 2
  bP1 : w.heap.size < bP
  own : PAny B w.heap.size wx v0 v1 p
  sep : ∀ g, v0.ownBlock = some g ∨ v1.ownBlock = some g → g ≠ bP ∧ g ≠ w.heap.size
  e : RowAt wx w.heap.size 0 [.slice none 0 0, .slice none 0 0] ∧ Wr wx w.heap.size 0 2
section
variable {W0 w wx wy : World} {b bP B : Nat} {v0 v1 : Value} {p : GPool}
theorem AS.lt (h : AS W0 w b bP wx v0 v1 p B) : bP < wx.heap.size := World.block_lt_of_cell? _ _ h.box.box2.1
theorem AS.kept (h : AS W0 w b bP wx v0 v1 p B) {S : Nat → Prop} (hk : Kept S wx wy) (hz : wx.heap.size ≤ wy.heap.size) (D : DF W0 b w wy) (h1 : ¬ S bP) (h2 : ¬ S w.heap.size) (h3 : ∀ g, v0.ownBlock = some g ∨ v1.ownBlock = some g → ¬ S g) : AS W0 w b bP wy v0 v1 p B :=
  ⟨D, h.bw, h.box.kept hk h1, h.wr.kept hk h1, h.bP1, h.own.kept hk hz (fun g hg => h3 g (.inl hg)) (fun g hg => h3 g (.inr hg)), h.sep, h.e.1.kept hk h2, h.e.2.kept hk h2⟩
theorem AS.next (h : AS W0 w b bP wx v0 v1 p B) (D : DF W0 b wx wy) : AS W0 w b bP wy v0 v1 p B :=
  have hb := h.bw
  h.kept D.kept D.size (h.df.trans D) (by have := h.bP1; omega) (by omega) (fun g hg => by have := h.own.blocks g hg; omega)
theorem AS.below (h : AS W0 w b bP wx v0 v1 p B) (hb : Below wx.heap.size wx wy) : AS W0 w b bP wy v0 v1 p B := h.next ((DF.refl h.df.cur).below hb)
/-- A store into the pool's box: other free places. -/
theorem AS.free (h : AS W0 w b bP wx v0 v1 p B) {u1 : Value} {fr : List Int} {B' : Nat} (D : DF W0 b w wy) {S : Nat → Prop} (hk : Kept S wx wy) (hS : ∀ q, S q → q ≠ bP ∧ q ≠ w.heap.size ∧ v0.ownBlock ≠ some q)
    (ht : TailI B' wy w.heap.size u1 fr) (h64 : ∀ x ∈ fr, I64 x) (hm : fr.length ≤ 8001) (hap : ∀ g, u1.ownBlock = some g → g ≠ bP ∧ g ≠ w.heap.size ∧ v0.ownBlock ≠ some g) :
    AS W0 w b bP (wy.setCell ⟨bP, 1, none⟩ u1) v0 u1 ⟨p.cells, fr⟩ B' := by
  have hb1 := h.bP1
  have hr := h.box.kept hk (fun e => (hS _ e).1 rfl)
  have hw := h.wr.kept hk (fun e => (hS _ e).1 rfl)
  have K : Kept (· = bP) wy (wy.setCell ⟨bP, 1, none⟩ u1) := Kept.set (S := (· = bP)) (p := ⟨bP, 1, none⟩) (Kept.refl _ _) rfl _
  have q2 := stored2' (y := u1) hr.box2.1 hr.box2.2
  refine ⟨D.sets K (by omega) h.bw (fun C hC => (Below.refl C wy).setCell (p := ⟨bP, 1, none⟩) hC _), h.bw, RowAt.of2 q2.1 q2.2, hw.set 1 _, hb1, ⟨(h.own.cells.kept hk (fun g hg e => (hS g e).2.2 hg)).kept K (fun g hg e => (h.sep g (.inl hg)).1 e), ht.kept K (by simp [World.setCell]) (fun g hg e => (hap g hg).1 e), h64, fun g h0 h1 => (hap g h1).2.2 h0, h.own.len, h.own.small, hm⟩, fun g hg => ?_, (h.e.1.kept hk (fun e => (hS _ e).2.1 rfl)).kept K (by omega), (h.e.2.kept hk (fun e => (hS _ e).2.1 rfl)).kept K (by omega)⟩
  rcases hg with hg | hg
  · exact h.sep g (.inl hg)
  · exact ⟨(hap g hg).1, (hap g hg).2.1⟩
/-- The first cell is stored anew. -/
theorem AS.cell {gc n cap : Nat} (h : AS W0 w b bP wx (.slice (some ⟨gc, 0, none⟩) n cap) v1 p B) (hn : n = p.cells.length) (h0 : 0 < n) {c : GCell} (hc : SmallC c) :
    AS W0 w b bP (storeRow wx gc 0 (cellRow c)) (.slice (some ⟨gc, 0, none⟩) n cap) v1 ⟨p.cells.set 0 c, p.free⟩ B := by
  subst hn
  have K : Kept (· = gc) wx (storeRow wx gc 0 (cellRow c)) := kept_storeRow gc _ _ (Kept.refl _ _)
  have hb := h.sep gc (.inl rfl)
  have hg := h.own.cells.base gc rfl
  have hB : ∀ C, C ≤ gc → Below C wx (storeRow wx gc 0 (cellRow c)) := fun C hC => (below_storeRow gc _ _ _).mono hC
  have hz := (hB 0 (Nat.zero_le _)).size
  refine ⟨h.df.sets K hg.1 h.bw hB, h.bw, h.box.kept K (fun e => hb.1 e.symm), h.wr.kept K (fun e => hb.1 e.symm), h.bP1, ⟨⟨?_, fun x hx => ?_⟩, h.own.free.kept K hz (fun g hg e => h.own.apart gc rfl (e ▸ hg)), h.own.f64, h.own.apart, by simpa using h.own.len, fun x hx => ?_, h.own.many⟩, h.sep, h.e.1.kept K (fun e => hb.2 e.symm), h.e.2.kept K (fun e => hb.2 e.symm)⟩
  · have := own_store (v := .slice none 0 0) flatCell (k := 0) (y := c) h.own.cells.1 h0
    simpa using this
  · rcases List.mem_or_eq_of_mem_set hx with h1 | rfl
    · exact h.own.cells.2 x h1
    · exact hc.1
  · rcases List.mem_or_eq_of_mem_set hx with h1 | rfl
    · exact h.own.small x h1
    · exact hc
end

def PyPost (W0 w : World) (b : Nat) (e : Ending) (w' : World) : Prop :=
  ∃ (v0 v1 vr : Value) (p : GPool) (vs : List GVal) (B B2 : Nat), e = .returned (.tuple #[.agg #[v0, v1], vr]) ∧ PAny B w.heap.size w' v0 v1 p ∧ Tail B2 w' w.heap.size 28 3 vr vs.length (rowsOf valRow vs) ∧ vs.length ≤ 101 ∧ (∀ v ∈ vs, SmallV v) ∧ DF W0 b w w'

end Go.Proofs.Ytajbgkpjmgmdhaa
