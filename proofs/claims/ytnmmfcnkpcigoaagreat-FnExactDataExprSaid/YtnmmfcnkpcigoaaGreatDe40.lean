/- Parts of the proof, merged: LyN. -/
import Derived.Test.YtnmmfcnkpcigoaaGreatDe39
/- The reference's l03Lay: an expression by value laid into a list of nodes. -/
namespace Go.Proofs.YtnmmfcnkpcigoaaGreat
open Go.RowKit
set_option linter.unusedVariables false
set_option linter.unusedSimpArgs false
attribute [local go_sem] Ext.cell

/-- What is known behind a step that makes the reference's list longer. -/
structure LStep (A : Nat → Prop) (lo : Nat) (w : World) (v : Value) (pss : List (List Nat)) (w' : World) (v' : Value) (pss' : List (List Nat)) (xs' : List GNode) : Prop where
  grow : GrowO 47 6 GNode.O lo w' v' pss' xs'
  sep : ∀ b ∈ pss'.flatten, v'.ownBlock ≠ some b
  below : Below lo w w'
  kept : Kept (fun q => v.ownBlock = some q) w w'
  blk : ∀ q, v'.ownBlock = some q → v.ownBlock = some q ∨ w.heap.size ≤ q
  new : ∀ b ∈ pss'.flatten, b ∈ pss.flatten ∨ A b ∨ w.heap.size ≤ b
theorem LStep.refl {A : Nat → Prop} {lo : Nat} {w : World} {v : Value} {pss : List (List Nat)} {xs : List GNode} (h : GrowO 47 6 GNode.O lo w v pss xs) (hs : ∀ b ∈ pss.flatten, v.ownBlock ≠ some b) : LStep A lo w v pss w v pss xs :=
  ⟨h, hs, Below.refl _ _, Kept.refl _ _, fun q h => .inl h, fun b h => .inl h⟩
theorem LStep.trans {A A' : Nat → Prop} {lo : Nat} {w w1 w2 : World} {v v1 v2 : Value} {pss p1 p2 : List (List Nat)} {x1 x2 : List GNode} (h : LStep A lo w v pss w1 v1 p1 x1) (k : LStep A' lo w1 v1 p1 w2 v2 p2 x2) (hA : ∀ q, A' q → A q ∨ w.heap.size ≤ q) : LStep A lo w v pss w2 v2 p2 x2 := by
  have hs := h.below.size
  refine ⟨k.grow, k.sep, h.below.trans k.below, fun q h1 h2 => (k.kept q (by omega) fun h3 => ?_).trans (h.kept q h1 h2), fun q hq => ?_, fun b hb => ?_⟩
  · rcases h.blk q h3 with h4 | h4
    · exact h2 h4
    · omega
  · rcases k.blk q hq with h3 | h3
    · exact h.blk q h3
    · exact .inr (by omega)
  · rcases k.new b hb with h3 | h3 | h3
    · exact h.new b h3
    · exact .inr (hA b h3)
    · exact .inr (.inr (by omega))
/-- A change outside the list. -/
theorem LStep.aside {A S : Nat → Prop} {lo : Nat} {w w1 w2 : World} {v v1 : Value} {pss p1 : List (List Nat)} {x1 : List GNode} (h : LStep A lo w v pss w1 v1 p1 x1) (hk : Kept S w1 w2) (hb : Below lo w1 w2) (hS : ∀ q, S q → w.heap.size ≤ q ∧ v1.ownBlock ≠ some q ∧ q ∉ p1.flatten) : LStep A lo w v pss w2 v1 p1 x1 := by
  have hs := h.below.size
  refine ⟨h.grow.kept GNode.ok hk fun b hb' hs' => ?_, h.sep, h.below.trans hb, fun q h1 h2 => (hk q (by omega) fun h3 => by have := (hS q h3).1; omega).trans (h.kept q h1 h2), h.blk, h.new⟩
  rcases mem_fpO.1 hb' with h1 | h1
  · exact (hS b hs').2.1 h1
  · exact (hS b hs').2.2 h1
theorem GNode.O_zero (w : World) : GNode.O [] w [.int .i64 0, .int .i64 0, .int .i64 0, .string ⟨#[]⟩, .slice none 0 0, .slice none 0 0] ⟨0, 0, 0, ⟨#[]⟩, [], []⟩ :=
  ⟨_, [], _, [], rfl, rfl, ⟨by constructor <;> simp, by constructor <;> simp, by constructor <;> simp, by show (0 : Nat) ≤ _; omega⟩, SlO.nil, SlO.nil⟩
/-- An empty node more. -/
theorem LStep.push {A : Nat → Prop} {lo n g cap : Nat} {w w1 w2 : World} {v : Value} {pss : List (List Nat)} {rows : List (List Value)} {xs : List GNode}
    (hs : ∀ b ∈ pss.flatten, v.ownBlock ≠ some b) (hlt : ∀ b ∈ pss.flatten, b < w.heap.size) (hlo : lo ≤ w.heap.size) (hown0 : w.ownsRow lo 47 6 v n rows.flatten) (hrows : RowsO GNode.O 6 w pss rows xs) (hn : n = xs.length)
    (hb : Below w.heap.size w w1) (hgrow : w1.grownBy w2 v.ownBlock) (hown : w2.ownsRow lo 47 6 (.slice (some ⟨g, 0, none⟩) (n + 1) cap) (n + 1) (rows.flatten ++ [.int .i64 0, .int .i64 0, .int .i64 0, .string ⟨#[]⟩, .slice none 0 0, .slice none 0 0]))
    (hat : v.ownBlock = some g ∨ g = w1.heap.size) :
    LStep A lo w v pss w2 (.slice (some ⟨g, 0, none⟩) (n + 1) cap) (pss ++ [[]]) (xs ++ [⟨0, 0, 0, ⟨#[]⟩, [], []⟩]) := by
  have hsz := hb.size
  have k6 := kept_of hgrow (w := w) hb
  have hob := own_base hown0
  have hR := hrows.kept GNode.ok k6 (fun b hb e => hs b hb e.symm)
  have hfl : (pss ++ [[]]).flatten = pss.flatten := by simp
  refine ⟨GrowO.push hR hn hown rfl (GNode.O_zero _), ?_, below_grown2 (wr := w) hgrow hb (Below.refl lo w) hlo hown0, fun q h1 h2 => k6 q h1 fun e => h2 e.symm, fun q hq => ?_, fun b hb => ?_⟩
  · rw [hfl]
    intro b hb e
    obtain rfl : g = b := by simpa [Value.ownBlock] using e
    rcases hat with h | h
    · exact hs g hb h
    · have := hlt g hb; omega
  · obtain rfl : g = q := by simpa [Value.ownBlock] using hq
    rcases hat with h | h
    · exact .inl h
    · exact .inr (by omega)
  · rw [hfl] at hb
    exact .inl hb
/-- The node is stored: all six cells at place n. -/
theorem LStep.store {A : Nat → Prop} {lo n gv cap m : Nat} {w w1 : World} {v : Value} {pss pss1 : List (List Nat)} {xs : List GNode} {x : GNode} (h : LStep A lo w v pss w1 (.slice (some ⟨gv, 0, none⟩) m cap) pss1 xs) (hm : m = xs.length) (hx : n < xs.length)
    {kv pv : Value} {kb pb : List Nat} (hwf : x.wf) (hk : SlO 3 1 (FlatO intRow I64) kb w1 kv x.kids) (hp : SlO 105 1 GPat.O pb w1 pv x.pats) (hkb : ∀ b ∈ kb, b ≠ gv ∧ w.heap.size ≤ b) (hpb : ∀ b ∈ pb, b ≠ gv ∧ (A b ∨ w.heap.size ≤ b)) :
    (∀ t, t < 6 → ∃ c, w1.cell? ⟨gv, n * 6 + t, none⟩ = some c ∧ w1.frozen? ⟨gv, n * 6 + t, none⟩ = false) ∧
    ∃ pss', LStep A lo w v pss (storeRow w1 gv (n * 6) [.int .i64 x.kind, .int .i64 x.at_, .int .i64 x.n, .string x.s, kv, pv]) (.slice (some ⟨gv, 0, none⟩) m cap) pss' (xs.set n x) := by
  subst hm
  obtain ⟨⟨rows, hown, hrows⟩, hsep, hbel, hkept, hblk, hnew⟩ := h
  obtain ⟨y, hy⟩ : ∃ y, xs[n]? = some y := ⟨_, List.getElem?_eq_getElem hx⟩
  obtain ⟨p, r, hpp, hr, hrl, hO⟩ := hrows.at hy
  have M0 := MidO.start hown hrows.wide hrows.lr hr
  have hlo : lo ≤ gv := (own_base hown gv rfl).1
  have hgw : gv < w1.heap.size := (own_base hown gv rfl).2
  refine ⟨fun t ht => ?_, ?_⟩
  · exact ⟨r[t]'(by omega), M0.cell (t := t) rfl (List.getElem?_eq_getElem (by omega))⟩
  have M6 := ((((((M0.set (t := 0) (off := n * 6 + 0) (by omega) rfl (.int .i64 x.kind)).set (t := 1) (off := n * 6 + 1) (by omega) rfl (.int .i64 x.at_)).set (t := 2) (off := n * 6 + 2) (by omega) rfl (.int .i64 x.n)).set (t := 3) (off := n * 6 + 3) (by omega) rfl (.string x.s)).set (t := 4) (off := n * 6 + 4) (by omega) rfl kv).set (t := 5) (off := n * 6 + 5) (by omega) rfl pv)
  have hW : storeRow w1 gv (n * 6) [.int .i64 x.kind, .int .i64 x.at_, .int .i64 x.n, .string x.s, kv, pv] = (((((w1.setCell ⟨gv, n * 6 + 0, none⟩ (.int .i64 x.kind)).setCell ⟨gv, n * 6 + 1, none⟩ (.int .i64 x.at_)).setCell ⟨gv, n * 6 + 2, none⟩ (.int .i64 x.n)).setCell ⟨gv, n * 6 + 3, none⟩ (.string x.s)).setCell ⟨gv, n * 6 + 4, none⟩ kv).setCell ⟨gv, n * 6 + 5, none⟩ pv := rfl
  rw [← hW] at M6
  have hre : (((((r.set 0 (.int .i64 x.kind)).set 1 (.int .i64 x.at_)).set 2 (.int .i64 x.n)).set 3 (.string x.s)).set 4 kv).set 5 pv = [.int .i64 x.kind, .int .i64 x.at_, .int .i64 x.n, .string x.s, kv, pv] := by
    obtain ⟨a0, a1, a2, a3, a4, a5, rfl⟩ : ∃ a0 a1 a2 a3 a4 a5, r = [a0, a1, a2, a3, a4, a5] := by
      match r, hrl with
      | [a0, a1, a2, a3, a4, a5], _ => exact ⟨_, _, _, _, _, _, rfl⟩
    rfl
  rw [hre] at M6
  have hK : Kept (· = gv) w1 (storeRow w1 gv (n * 6) [.int .i64 x.kind, .int .i64 x.at_, .int .i64 x.n, .string x.s, kv, pv]) := kept_storeRow gv _ _ (Kept.refl _ _)
  have hBW : Below lo w1 (storeRow w1 gv (n * 6) [.int .i64 x.kind, .int .i64 x.at_, .int .i64 x.n, .string x.s, kv, pv]) := (below_storeRow gv _ _ _).mono hlo
  clear hW
  generalize storeRow w1 gv (n * 6) [.int .i64 x.kind, .int .i64 x.at_, .int .i64 x.n, .string x.s, kv, pv] = W at *
  have hgp : ∀ b ∈ pss1.flatten, ¬ b = gv := fun b hb e => hsep b hb (by rw [e]; rfl)
  have hO6 : GNode.O (kb ++ pb) W [.int .i64 x.kind, .int .i64 x.at_, .int .i64 x.n, .string x.s, kv, pv] x :=
    ⟨kv, kb, pv, pb, rfl, rfl, hwf, hk.kept (flatO_ok flatInt) hK (fun b hb => (hkb b hb).1), hp.kept GPat.ok hK fun b hb => (hpb b hb).1⟩
  refine ⟨pss1.set n (kb ++ pb), ⟨rows.set n [.int .i64 x.kind, .int .i64 x.at_, .int .i64 x.n, .string x.s, kv, pv], by rw [List.length_set]; exact M6.own, hrows.set2 GNode.ok n (by rfl) hO6 hK hgp⟩, ?_, hbel.trans hBW, ?_, hblk, ?_⟩
  · obtain ⟨l1, l2, rfl, -, hset⟩ := set_split hpp
    rw [hset]
    intro b hb e
    obtain rfl : gv = b := by simpa [Value.ownBlock] using e
    rw [List.flatten_append, List.flatten_cons] at hb
    rcases List.mem_append.1 hb with h2 | h2
    · exact hgp gv (by rw [List.flatten_append]; simp [h2]) rfl
    · rcases List.mem_append.1 h2 with h3 | h3
      · rcases List.mem_append.1 h3 with h4 | h4
        · exact (hkb gv h4).1 rfl
        · exact (hpb gv h4).1 rfl
      · exact hgp gv (by rw [List.flatten_append, List.flatten_cons]; simp [h3]) rfl
  · have hs := hbel.size
    intro q h1 h2
    refine (hK q (by omega) fun e => ?_).trans (hkept q h1 h2)
    subst e
    rcases hblk q rfl with h3 | h3
    · exact h2 h3
    · omega
  · obtain ⟨l1, l2, rfl, -, hset⟩ := set_split hpp
    rw [hset]
    intro b hb
    rw [List.flatten_append, List.flatten_cons] at hb
    rcases List.mem_append.1 hb with h2 | h2
    · exact hnew b (by rw [List.flatten_append]; simp [h2])
    · rcases List.mem_append.1 h2 with h3 | h3
      · rcases List.mem_append.1 h3 with h4 | h4
        · exact .inr (.inr (hkb b h4).2)
        · exact .inr (hpb b h4).2
      · exact hnew b (by rw [List.flatten_append, List.flatten_cons]; simp [h3])
end Go.Proofs.YtnmmfcnkpcigoaaGreat
