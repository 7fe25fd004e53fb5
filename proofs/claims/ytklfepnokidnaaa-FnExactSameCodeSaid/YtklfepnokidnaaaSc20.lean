/- Parts of the proof, merged: Copy, Copy2, Copy3, Copy4, Thread. -/
import Derived.Deep.RegionHeld3
import Derived.Test.YtklfepnokidnaaaSc19
/- Copies of code: slices.Clone; a pattern's copy. -/
namespace Go.Proofs.Ytklfepnokidnaaa
open Go.RowKit
set_option linter.unusedVariables false
set_option linter.unusedSimpArgs false
attribute [local go_sem] Ext.cell

theorem OwnF.slO {α : Type} {R : Reading α} {sz : Nat} {f : α → List Value} {wf : α → Prop} {e : TypeId} {lo : Nat} {w : World} {v : Value} {xs : List α} (F : Flat R sz f wf) (h : OwnF e sz f wf lo w v xs) :
    ∃ bs, SlO e sz (FlatO f wf) bs w v xs ∧ bs.Nodup ∧ ∀ b ∈ bs, lo ≤ b := by
  have hp : (xs.map fun _ => ([] : List Nat)).flatten = [] := by
    induction xs with
    | nil => rfl
    | cons x xs ih => simp
  have hG : GrowO e sz (FlatO f wf) lo w v (xs.map fun _ => []) xs := ⟨xs.map f, h.1, ⟨by simp, by simp, fun r hr => by obtain ⟨x, _, rfl⟩ := List.mem_map.1 hr; exact F.len x, fun i p r x h1 h2 h3 => by
    rw [List.getElem?_map, h3] at h1 h2
    simp at h1 h2
    exact ⟨by first | exact h1 | exact h1.symm, by first | exact h2 | exact h2.symm, h.2 x (List.mem_of_getElem? h3)⟩⟩⟩
  refine ⟨_, hG.slO, ?_, fun b hb => ?_⟩
  · unfold fpO
    rw [hp, List.append_nil]
    cases v.ownBlock with
    | none => exact List.nodup_nil
    | some g => simp
  · rw [mem_fpO, hp] at hb
    rcases hb with hb | hb
    · exact (own_base h.1 b hb).1
    · cases hb

theorem slice_none' {α : Type} {R : Reading α} {sz lo : Nat} {w : World} {xs : List α} (h : SlAt R sz lo w none xs) : xs = [] := by
  rcases Nat.eq_zero_or_pos xs.length with h0 | h0
  · exact List.length_eq_zero_iff.1 h0
  · obtain ⟨b, off, _, ha, _⟩ := h h0
    cases ha

theorem list_choice {α : Type} {P : Nat → α → Prop} : ∀ n : Nat, (∀ i, i < n → ∃ p, P i p) → ∃ ps : List α, ps.length = n ∧ ∀ i p, ps[i]? = some p → P i p
  | 0, _ => ⟨[], rfl, fun i p h => by simp at h⟩
  | n + 1, h => by
    obtain ⟨ps, h1, h2⟩ := list_choice n fun i hi => h i (by omega)
    obtain ⟨q, hq⟩ := h n (by omega)
    refine ⟨ps ++ [q], by simp [h1], fun i p hp => ?_⟩
    rcases Nat.lt_trichotomy i n with hi | hi | hi
    · rw [List.getElem?_append_left (by omega)] at hp; exact h2 i p hp
    · subst hi
      rw [List.getElem?_append_right (by omega), h1, Nat.sub_self] at hp
      simp at hp; subst hp; exact hq
    · rw [List.getElem?_eq_none (by simp [h1]; omega)] at hp; cases hp
/-- A node's cells as they lie. -/
def PRow : Type := GPNode × Option Addr × Nat
def prow (p : PRow) : List Value := [.int .i64 p.1.kind, .int .i64 p.1.n, .string p.1.s, .slice p.2.1 p.1.kids.length p.2.2]
def pwf (p : PRow) : Prop := p.1.wf
def PRowR : Reading PRow := fun _ _ r p => r = prow p ∧ pwf p
theorem flatP : Flat PRowR 4 prow pwf := ⟨fun h => h, fun h _ _ => ⟨rfl, h⟩, fun _ => rfl, fun _ u hu => by simp [prow] at hu; rcases hu with rfl | rfl | rfl | rfl <;> rfl, by decide⟩
theorem sl_rows {lo : Nat} {w : World} {v : Value} {xs : List GPNode} (h : Sl GPNode.R 4 lo w v xs) : ∃ ps : List PRow, ps.map (·.1) = xs ∧ Sl PRowR 4 lo w v ps ∧ ∀ p ∈ ps, Sl IntR 1 lo w (.slice p.2.1 p.1.kids.length p.2.2) p.1.kids := by
  obtain ⟨a, c, rfl, h1, h2, h3⟩ := h
  by_cases h0 : 0 < xs.length
  · obtain ⟨b, off, h4, rfl, h6⟩ := h3 h0
    have hx : ∀ (i : Nat) x, xs[i]? = some x → ∃ p : PRow, p.1 = x ∧ pwf p ∧ RowAt w b (off + i * 4) (prow p) ∧ Sl IntR 1 lo w (.slice p.2.1 p.1.kids.length p.2.2) p.1.kids := fun i x hx => by
      obtain ⟨r, ⟨u0, rfl, hwf, s0⟩, hr⟩ := h6 i x hx
      obtain ⟨ka, kc, rfl⟩ := s0.form
      exact ⟨(x, ka, kc), rfl, hwf, hr, s0⟩
    obtain ⟨ps, hl, hat⟩ := list_choice (P := fun i p => ∃ x, xs[i]? = some x ∧ p.1 = x ∧ pwf p ∧ RowAt w b (off + i * 4) (prow p) ∧ Sl IntR 1 lo w (.slice p.2.1 p.1.kids.length p.2.2) p.1.kids) xs.length (fun i hi => by
      obtain ⟨p, hp⟩ := hx i _ (List.getElem?_eq_getElem hi)
      exact ⟨p, _, List.getElem?_eq_getElem hi, hp⟩)
    refine ⟨ps, List.ext_getElem? fun i => ?_, ⟨_, c, by rw [hl], by rw [hl]; exact h1, h2, fun _ => ⟨b, off, h4, rfl, fun i p hp => ?_⟩⟩, fun p hp => ?_⟩
    · rw [List.getElem?_map]
      cases hp : ps[i]? with
      | none => rw [List.getElem?_eq_none (by rw [← hl]; exact List.getElem?_eq_none_iff.1 hp)]; rfl
      | some p => obtain ⟨x, h8, h9, _⟩ := hat i p hp; rw [h8, ← h9]; rfl
    · obtain ⟨x, h8, h9, h10, h11, _⟩ := hat i p hp
      exact ⟨prow p, ⟨rfl, h10⟩, h11⟩
    · obtain ⟨i, hi, rfl⟩ := List.getElem_of_mem hp
      obtain ⟨x, _, _, _, _, h12⟩ := hat i _ (List.getElem?_eq_getElem hi)
      exact h12
  · obtain rfl : xs = [] := List.length_eq_zero_iff.1 (by omega)
    exact ⟨[], rfl, ⟨a, c, rfl, Nat.zero_le _, h2, fun h => absurd h (by simp)⟩, fun p hp => by cases hp⟩

end Go.Proofs.Ytklfepnokidnaaa

/- A pattern's copy is the call's own. -/
namespace Go.Proofs.Ytklfepnokidnaaa
open Go.RowKit
set_option linter.unusedVariables false
set_option linter.unusedSimpArgs false
attribute [local go_sem] Ext.cell

def PatSmall (q : GPat) : Prop := q.nodes.length ≤ 1048576 ∧ ∀ x ∈ q.nodes, x.kids.length ≤ 1048576
/-- The first j nodes have lists of their own, behind block B; the others as they were. -/
structure PSt (lo B : Nat) (w : World) (g cap n : Nat) (ps : List PRow) (j : Nat) (rows : List (List Value)) (pss : List (List Nat)) : Prop where
  own : w.ownsRow lo 77 4 (.slice (some ⟨g, 0, none⟩) n cap) n rows.flatten
  wide : ∀ r ∈ rows, r.length = 4
  lr : rows.length = n
  done : RowsO GPNode.O 4 w pss (rows.take j) ((ps.take j).map (·.1))
  rest : ∀ i p, j ≤ i → ps[i]? = some p → rows[i]? = some (prow p)
  nd : pss.flatten.Nodup
  far : ∀ b ∈ pss.flatten, B < b
theorem PSt.start {lo B : Nat} {w : World} {g cap : Nat} {ps : List PRow} (h : OwnF 77 4 prow pwf lo w (.slice (some ⟨g, 0, none⟩) ps.length cap) ps) : PSt lo B w g cap ps.length ps 0 (ps.map prow) [] :=
  ⟨h.1, fun r hr => by obtain ⟨x, _, rfl⟩ := List.mem_map.1 hr; rfl, by simp, RowsO.nil, fun i p _ hp => by rw [List.getElem?_map, hp]; rfl, List.nodup_nil, fun b hb => by cases hb⟩
theorem PSt.below {lo B : Nat} {w w' : World} {g cap n : Nat} {ps : List PRow} {j : Nat} {rows : List (List Value)} {pss : List (List Nat)} (h : PSt lo B w g cap n ps j rows pss) (hb : Below w.heap.size w w') : PSt lo B w' g cap n ps j rows pss :=
  ⟨own_below h.own hb, h.wide, h.lr, h.done.below GPNode.ok hb, h.rest, h.nd, h.far⟩
theorem PSt.step {lo B : Nat} {w w' : World} {g cap n : Nat} {ps : List PRow} {j : Nat} {rows : List (List Value)} {pss : List (List Nat)} {p : PRow} {u : Value} {bs : List Nat} (h : PSt lo B w g cap n ps j rows pss) (hp : ps[j]? = some p) (hwf : pwf p)
    (hM : MidO 77 4 lo w' g cap n rows j ((prow p).set 3 u)) (hK : Kept (· = g) w w') (hg : g ≤ B) (hS : SlO 3 1 (FlatO intRow I64) bs w' u p.1.kids) (hnd : bs.Nodup) (hfar : ∀ b ∈ bs, w.heap.size ≤ b) (hB : B < w.heap.size) :
    PSt lo B w' g cap n ps (j + 1) (rows.set j ((prow p).set 3 u)) (pss ++ [bs]) := by
  have hj := hM.hj
  refine ⟨hM.own, fun r hr => ?_, by rw [List.length_set]; exact h.lr, ?_, fun i q hi hq => ?_, ?_, fun b hb => ?_⟩
  · rcases List.mem_or_eq_of_mem_set hr with h1 | h1
    · exact h.wide r h1
    · rw [h1]; rfl
  · have e1 : (rows.set j ((prow p).set 3 u)).take (j + 1) = rows.take j ++ [(prow p).set 3 u] := by
      rw [List.take_add_one, List.getElem?_set_self (by rw [h.lr]; exact hj), List.take_set_of_le (Nat.le_refl _)]
      rfl
    have e2 : (ps.take (j + 1)).map (·.1) = (ps.take j).map (·.1) ++ [p.1] := by rw [take_snoc' hp, List.map_append]; rfl
    rw [e1, e2]
    exact (h.done.kept GPNode.ok hK (fun b hb e => by have := h.far b hb; omega)).push rfl ⟨u, rfl, hwf, hS⟩
  · rw [List.getElem?_set_ne (by omega)]
    exact h.rest i q (by omega) hq
  · rw [List.flatten_append, List.flatten_singleton]
    exact List.nodup_append.2 ⟨h.nd, hnd, fun b h1 b2 h2 e => by subst e; have := h.done.lt GPNode.ok _ h1; have := hfar _ h2; omega⟩
  · rw [List.flatten_append, List.flatten_singleton] at hb
    rcases List.mem_append.1 hb with h1 | h1
    · exact h.far b h1
    · have := hfar b h1; omega
theorem PSt.full {lo B : Nat} {w : World} {g cap n : Nat} {ps : List PRow} {rows : List (List Value)} {pss : List (List Nat)} (h : PSt lo B w g cap n ps n rows pss) (hn : n = ps.length) (hg : g ≤ B) (hlo : lo ≤ B) :
    ∃ bs, SlO 77 4 GPNode.O bs w (.slice (some ⟨g, 0, none⟩) n cap) (ps.map (·.1)) ∧ bs.Nodup ∧ ∀ b ∈ bs, lo ≤ b := by
  have h1 := h.done
  rw [List.take_of_length_le (by rw [h.lr]; exact Nat.le_refl _), List.take_of_length_le (by omega)] at h1
  have hG : GrowO 77 4 GPNode.O lo w (.slice (some ⟨g, 0, none⟩) n cap) pss (ps.map (·.1)) := ⟨rows, by rw [List.length_map, ← hn]; exact h.own, h1⟩
  have h2 := (own_base h.own g rfl).1
  refine ⟨_, hG.slO, ?_, fun b hb => ?_⟩
  · rw [fpO_slice]
    exact List.nodup_cons.2 ⟨fun hb => by have := h.far g hb; omega, h.nd⟩
  · rw [fpO_slice] at hb
    rcases List.mem_cons.1 hb with h3 | h3
    · omega
    · have := h.far b h3; omega

end Go.Proofs.Ytklfepnokidnaaa

/- Patterns' copies, a code's copy: the call's own. -/
namespace Go.Proofs.Ytklfepnokidnaaa
open Go.RowKit
set_option linter.unusedVariables false
set_option linter.unusedSimpArgs false
attribute [local go_sem] Ext.cell

theorem GrowO.push {α : Type} {O : FootR α} {sz : Nat} {e : TypeId} {lo n : Nat} {w : World} {v : Value} {ps : List (List Nat)} {rows : List (List Value)} {xs : List α} {p : List Nat} {r : List Value} {x : α}
    (h : RowsO O sz w ps rows xs) (hn : n = xs.length) (hown : w.ownsRow lo e sz v (n + 1) (rows.flatten ++ r)) (hr : r.length = sz) (ho : O p w r x) : GrowO e sz O lo w v (ps ++ [p]) (xs ++ [x]) := by
  subst hn
  exact ⟨rows ++ [r], by rw [List.flatten_append, List.flatten_singleton, List.length_append]; exact hown, h.push hr ho⟩
/-- Behind an append: the blocks are still apart. -/
theorem fpO_push {v : Value} {g n cap s0 s1 : Nat} {ps : List (List Nat)} {bs : List Nat} (hnd : (fpO v ps).Nodup) (hlt : ∀ b ∈ fpO v ps, b < s0) (hb : bs.Nodup) (hb0 : ∀ b ∈ bs, s0 ≤ b) (hb1 : ∀ b ∈ bs, b < s1) (hs : s0 ≤ s1) (hat : v.ownBlock = some g ∨ g = s1) :
    (fpO (.slice (some ⟨g, 0, none⟩) n cap) (ps ++ [bs])).Nodup := by
  rw [fpO_slice, List.flatten_append, List.flatten_singleton, List.nodup_cons]
  have h1 : ps.flatten.Nodup := by unfold fpO at hnd; exact (List.nodup_append.1 hnd).2.1
  refine ⟨fun h => ?_, List.nodup_append.2 ⟨h1, hb, fun b h2 b2 h3 e => by subst e; have := hlt b (mem_fpO.2 (.inr h2)); have := hb0 b h3; omega⟩⟩
  rcases hat with hv | rfl
  · have h3 := hlt g (mem_fpO.2 (.inl hv))
    rcases List.mem_append.1 h with h | h
    · unfold fpO at hnd
      exact (List.nodup_append.1 hnd).2.2 g (by rw [hv]; simp) g h rfl
    · have := hb0 g h; omega
  · rcases List.mem_append.1 h with h | h
    · have := hlt g (mem_fpO.2 (.inr h)); omega
    · have := hb1 g h; omega

end Go.Proofs.Ytklfepnokidnaaa

/- A code's copy is the call's own. -/
namespace Go.Proofs.Ytklfepnokidnaaa
open Go.RowKit
set_option linter.unusedVariables false
set_option linter.unusedSimpArgs false
attribute [local go_sem] Ext.cell

def CodeCopy (c : GCode) : Prop := c.ins.length ≤ 1048576 ∧ c.pats.length ≤ 1048576 ∧ ∀ q ∈ c.pats, PatSmall q
def CopyPost (c : GCode) (w : World) (e : Ending) (w' : World) : Prop := ∃ r' bs, e = .returned (.agg r'.toArray) ∧ GCode.O bs w' r' c ∧ bs.Nodup ∧ (∀ b ∈ bs, w.heap.size ≤ b) ∧ Below w.heap.size w w'

theorem code_joined {c : GCode} {w W : World} {u0 u1 : Value} {p0 p1 : List Nat} {lo : Nat} (hlo : w.heap.size ≤ lo) (s0 : SlO 56 4 GIns.O p0 W u0 c.ins) (s1 : SlO 41 1 GPat.O p1 W u1 c.pats) (n0 : p0.Nodup) (n1 : p1.Nodup)
    (f0 : ∀ b ∈ p0, lo ≤ b) (f1 : ∀ b ∈ p1, lo ≤ b) (hd : ∀ b ∈ p0, b ∉ p1) (hb : Below w.heap.size w W) : CopyPost c w (.returned (.agg #[u0, u1])) W :=
  ⟨[u0, u1], p0 ++ p1, rfl, ⟨u0, p0, u1, p1, rfl, rfl, trivial, s0, s1⟩, List.nodup_append.2 ⟨n0, n1, fun a ha b hb e => hd a ha (e ▸ hb)⟩, fun b hb => by
    rcases List.mem_append.1 hb with h | h
    · exact Nat.le_trans hlo (f0 b h)
    · exact Nat.le_trans hlo (f1 b h), hb⟩

theorem set2_box {W : World} {g lo : Nat} {v0 v1 : Value} (u0 u1 : Value) (e0 : W.cell? ⟨g, 0, none⟩ = some v0) (e1 : W.cell? ⟨g, 1, none⟩ = some v1) (hg : lo ≤ g) :
    ∃ W2, W2 = (W.setCell ⟨g, 0, none⟩ u0).setCell ⟨g, 1, none⟩ u1 ∧ W2.cell? ⟨g, 0, none⟩ = some u0 ∧ W2.cell? ⟨g, 1, none⟩ = some u1 ∧ Kept (· = g) W W2 ∧ Below lo W W2 :=
  ⟨_, rfl, by rw [cell_setCell_ne _ _ _ _ _ (by decide)]; exact cell_setCell_eq _ _ _ _ e0, cell_setCell_eq _ _ _ _ (by rw [cell_setCell_ne _ _ _ _ _ (by decide)]; exact e1), ((Kept.refl (· = g) W).set (p := ⟨g, 0, none⟩) rfl u0).set (p := ⟨g, 1, none⟩) rfl u1, by go_grown⟩

end Go.Proofs.Ytklfepnokidnaaa

/- Where one comes over jumps alone: both functions; membership in a list of numbers. -/
namespace Go.Proofs.Ytklfepnokidnaaa
open Go.RowKit
set_option linter.unusedVariables false
set_option linter.unusedSimpArgs false
attribute [local go_sem] Ext.cell

theorem pig : ∀ (n : Nat) (p : List Int), p.Nodup → (∀ x ∈ p, 0 ≤ x ∧ x < (n : Int)) → p.length ≤ n
  | 0, p, _, h => by
    cases p with
    | nil => simp
    | cons x p => have := h x (by simp); omega
  | n + 1, p, hn, h => by
    have h1 := pig n (p.erase (n : Int)) (hn.erase _) (fun x hx => by
      have h2 := (hn.mem_erase_iff.1 hx)
      have h3 := h x h2.2
      have h4 : x ≠ (n : Int) := h2.1
      omega)
    have h2 := List.length_erase (a := (n : Int)) (l := p)
    split at h2 <;> omega

/-- Where one comes from p over jumps alone; fr where one comes back. -/
def thrF (is : List GIns) (fr : Int) : Nat → List Int → Int → Int
  | 0, _, p => p
  | f + 1, l, p => match is[p.toNat]? with
    | some i => if i.op = 12 then (if l.contains p then fr else thrF is fr f (l ++ [p]) i.a) else p
    | none => p
def thr (is : List GIns) (fr : Int) : Int := thrF is fr (is.length + 2) [] fr
/-- Where instructions lead to is in the code. -/
def LeadsIn (is : List GIns) : Prop := ∀ x ∈ is, leadsP x.op = true → ∃ k : Nat, x.a = (k : Int) ∧ k < is.length
theorem thr_in {is : List GIns} (hL : LeadsIn is) {fr : Nat} (hf : fr < is.length) : ∀ (f : Nat) (l : List Int) (p : Nat), p < is.length → ∃ k : Nat, thrF is (fr : Int) f l (p : Int) = (k : Int) ∧ k < is.length
  | 0, l, p, hp => ⟨p, rfl, hp⟩
  | f + 1, l, p, hp => by
    unfold thrF
    rw [Int.toNat_natCast, List.getElem?_eq_getElem hp]
    dsimp only
    split
    · rename_i h12
      split
      · exact ⟨fr, rfl, hf⟩
      · obtain ⟨k, hk, hlt⟩ := hL _ (List.getElem_mem hp) (by rw [h12]; rfl)
        rw [hk]
        exact thr_in hL hf f _ k hlt
    · exact ⟨p, rfl, hp⟩
def slen : Value → Nat
  | .slice _ n _ => n
  | _ => 0

theorem any_contains (l : List Int) (p : Int) : (l.any fun y => p == y) = l.contains p := by
  rw [Bool.eq_iff_iff, List.any_eq_true, List.contains_iff_mem]
  exact ⟨fun ⟨y, h1, h2⟩ => by simp at h2; exact h2 ▸ h1, fun h => ⟨p, h, by simp⟩⟩

set_option maxRecDepth 100000 in
set_option maxHeartbeats 4000000 in
theorem indexI_c (xs : List Int) (v : Int) (lo : Nat) (u : Value) (w : World) (hu : Sl IntR 1 lo w u xs) :
    Calls Try.prog 70 #[u, .int .i64 v] w (IdxPost (fun y => v == y) xs w) := by
  obtain ⟨ua, uc, rfl, ul, um, h0⟩ := hu
  replace h0 := Lib.hid h0
  obtain ⟨m, hm⟩ : ∃ m, m = xs.length := ⟨_, rfl⟩
  rw [← hm] at ul ⊢
  replace hm := Lib.hid hm
  go_enter Try.func70, Try.ntmps70
  go_wp2_with fail
  go_loopw [8] (fun i wr => ∃ k : Nat, k ≤ m ∧ i = .int .i64 k ∧ Below w.heap.size w wr ∧ Hid (∀ y ∈ xs.take k, (v == y) = false)) (fun i _ => m - (intOf i).toNat)
  case atStart => exact ⟨0, by omega, rfl, Below.refl _ _, fun y hy => by simp at hy⟩
  case round =>
    obtain ⟨k, hk, rfl, hw, hF⟩ := hrel
    by_cases hlt : k < m
    · obtain ⟨b1, o1, x, r, _, rfl, P1, ⟨rfl, -⟩, r1⟩ := (h0.out.below IntR.good hw).get hm hlt
      have e0 : wr.cell? ⟨b1, o1 + k, none⟩ = some (.int .i64 x) := by simpa using r1 0 _ rfl
      clear r1
      cases hq : (v == x) with
      | true =>
        go_wp2_with fail
        go_returns
        exact ⟨k, rfl, by
          have : xs.any (fun y => v == y) = true := List.any_eq_true.2 ⟨x, List.mem_of_getElem? P1.out, by simpa using hq⟩
          rw [this]; simp, hw⟩
      | false =>
        have hq' := Lib.hid hq
        go_wp2_with fail
        go_roundw
        case rel => exact ⟨k + 1, by omega, by go_num, hw, by
          show ∀ y ∈ xs.take (k + 1), (v == y) = false
          rw [take_snoc' P1.out]
          intro y hy
          rcases List.mem_append.1 hy with h | h
          · exact hF.out y h
          · simp at h; subst h; exact hq'.out⟩
        case measure => simp [intOf]; omega
    · obtain rfl : k = m := by omega
      go_wp2_with fail
      go_returns
      exact ⟨-1, rfl, by
        have hF := hF.out
        rw [take_full hm] at hF
        have : xs.any (fun y => v == y) = false := List.any_eq_false.2 fun y hy => by rw [hF y hy]; simp
        rw [this]; simp, hw⟩

theorem containsI_c (xs : List Int) (v : Int) (lo : Nat) (u : Value) (w : World) (hu : Sl IntR 1 lo w u xs) :
    Calls Try.prog 43 #[u, .int .i64 v] w fun e w' => e = .returned (.bool (xs.any fun y => v == y)) ∧ Below w.heap.size w w' := by
  have hc := indexI_c xs v lo u w hu
  replace hc : Calls Try.prog 70 #[u, .int .i64 v] w fun e w' => ∃ n : Int, e = .returned (.int .i64 n) ∧ decide (0 ≤ n) = (xs.any fun y => v == y) ∧ Below w.heap.size w w' := hc
  generalize (xs.any fun y => v == y) = q at *
  obtain ⟨ua, uc, rfl⟩ := hu.form
  clear hu
  go_enter Try.func43, Try.ntmps43
  go_wp2_with (go_at_call 70; refine hc.mono ?_; rintro e w1 ⟨n, rfl, hn, hb⟩)
  go_returns
  exact ⟨rfl, hb⟩

end Go.Proofs.Ytklfepnokidnaaa
