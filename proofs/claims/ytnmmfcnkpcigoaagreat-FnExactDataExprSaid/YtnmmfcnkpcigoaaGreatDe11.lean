/- Parts of the proof, merged: Copy. -/
import Derived.Test.YtnmmfcnkpcigoaaGreatDe10
/- Copies of code: slices.Clone; a pattern's copy. -/
namespace Go.Proofs.YtnmmfcnkpcigoaaGreat
open Go.RowKit
set_option linter.unusedVariables false
set_option linter.unusedSimpArgs false
attribute [local go_sem] Ext.cell

theorem info_IntQ : (Tryz.prog.info? 3).map (fun i => (i.zero, i.size, i.bytes)) = some (some (.int .i64 0), 1, 8) := by kernel_rfl
theorem info_PNodeQ : (Tryz.prog.info? 133).map (fun i => (i.zero, i.size, i.bytes)) = some (some (.agg #[.int .i64 0, .int .i64 0, .string ⟨#[]⟩, .slice none 0 0]), 4, 56) := by kernel_rfl
theorem info_PatQ : (Tryz.prog.info? 105).map (fun i => (i.zero, i.size, i.bytes)) = some (some (.agg #[.slice none 0 0]), 1, 24) := by kernel_rfl
theorem OwnF.slO {α : Type} {R : Reading α} {sz : Nat} {f : α → List Value} {wf : α → Prop} {e : TypeId} {lo : Nat} {w : World} {v : Value} {xs : List α} (F : Flat R sz f wf) (h : OwnF e sz f wf lo w v xs) :
    ∃ bs, SlO e sz (FlatO f wf) bs w v xs ∧ bs.Nodup ∧ ∀ b ∈ bs, lo ≤ b := by
  have hp : (xs.map fun _ => ([] : List Nat)).flatten = [] := by
    induction xs with
    | nil => rfl
    | cons x xs ih => simp
  have hG : GrowO e sz (FlatO f wf) lo w v (xs.map fun _ => []) xs := ⟨xs.map f, h.1, ⟨by simp, by simp, fun r hr => by obtain ⟨x, _, rfl⟩ := List.mem_map.1 hr; exact F.len x, fun i p r x h1 h2 h3 => by
    rw [List.getElem?_map, h3] at h1 h2
    simp at h1 h2
    exact ⟨by first | exact h1 | exact h1.symm, by first | exact h2 | exact h2.symm, h.2 x (List.mem_of_getElem? h3)⟩⟩⟩
  refine ⟨_, hG.slO, ?_, fun b hb => ?_⟩
  · unfold fpO
    rw [hp, List.append_nil]
    cases v.ownBlock with
    | none => exact List.nodup_nil
    | some g => simp
  · rw [mem_fpO, hp] at hb
    rcases hb with hb | hb
    · exact (own_base h.1 b hb).1
    · cases hb

theorem slice_none' {α : Type} {R : Reading α} {sz lo : Nat} {w : World} {xs : List α} (h : SlAt R sz lo w none xs) : xs = [] := by
  rcases Nat.eq_zero_or_pos xs.length with h0 | h0
  · exact List.length_eq_zero_iff.1 h0
  · obtain ⟨b, off, _, ha, _⟩ := h h0
    cases ha

theorem list_choice {α : Type} {P : Nat → α → Prop} : ∀ n : Nat, (∀ i, i < n → ∃ p, P i p) → ∃ ps : List α, ps.length = n ∧ ∀ i p, ps[i]? = some p → P i p
  | 0, _ => ⟨[], rfl, fun i p h => by simp at h⟩
  | n + 1, h => by
    obtain ⟨ps, h1, h2⟩ := list_choice n fun i hi => h i (by omega)
    obtain ⟨q, hq⟩ := h n (by omega)
    refine ⟨ps ++ [q], by simp [h1], fun i p hp => ?_⟩
    rcases Nat.lt_trichotomy i n with hi | hi | hi
    · rw [List.getElem?_append_left (by omega)] at hp; exact h2 i p hp
    · subst hi
      rw [List.getElem?_append_right (by omega), h1, Nat.sub_self] at hp
      simp at hp; subst hp; exact hq
    · rw [List.getElem?_eq_none (by simp [h1]; omega)] at hp; cases hp
/-- A node's cells as they lie. -/
def PRow : Type := GPNode × Option Addr × Nat
def prow (p : PRow) : List Value := [.int .i64 p.1.kind, .int .i64 p.1.n, .string p.1.s, .slice p.2.1 p.1.kids.length p.2.2]
def pwf (p : PRow) : Prop := p.1.wf
def PRowR : Reading PRow := fun _ _ r p => r = prow p ∧ pwf p
theorem flatP : Flat PRowR 4 prow pwf := ⟨fun h => h, fun h _ _ => ⟨rfl, h⟩, fun _ => rfl, fun _ u hu => by simp [prow] at hu; rcases hu with rfl | rfl | rfl | rfl <;> rfl, by decide⟩
theorem sl_rows {lo : Nat} {w : World} {v : Value} {xs : List GPNode} (h : Sl GPNode.R 4 lo w v xs) : ∃ ps : List PRow, ps.map (·.1) = xs ∧ Sl PRowR 4 lo w v ps ∧ ∀ p ∈ ps, Sl IntR 1 lo w (.slice p.2.1 p.1.kids.length p.2.2) p.1.kids := by
  obtain ⟨a, c, rfl, h1, h2, h3⟩ := h
  by_cases h0 : 0 < xs.length
  · obtain ⟨b, off, h4, rfl, h6⟩ := h3 h0
    have hx : ∀ (i : Nat) x, xs[i]? = some x → ∃ p : PRow, p.1 = x ∧ pwf p ∧ RowAt w b (off + i * 4) (prow p) ∧ Sl IntR 1 lo w (.slice p.2.1 p.1.kids.length p.2.2) p.1.kids := fun i x hx => by
      obtain ⟨r, ⟨u0, rfl, hwf, s0⟩, hr⟩ := h6 i x hx
      obtain ⟨ka, kc, rfl⟩ := s0.form
      exact ⟨(x, ka, kc), rfl, hwf, hr, s0⟩
    obtain ⟨ps, hl, hat⟩ := list_choice (P := fun i p => ∃ x, xs[i]? = some x ∧ p.1 = x ∧ pwf p ∧ RowAt w b (off + i * 4) (prow p) ∧ Sl IntR 1 lo w (.slice p.2.1 p.1.kids.length p.2.2) p.1.kids) xs.length (fun i hi => by
      obtain ⟨p, hp⟩ := hx i _ (List.getElem?_eq_getElem hi)
      exact ⟨p, _, List.getElem?_eq_getElem hi, hp⟩)
    refine ⟨ps, List.ext_getElem? fun i => ?_, ⟨_, c, by rw [hl], by rw [hl]; exact h1, h2, fun _ => ⟨b, off, h4, rfl, fun i p hp => ?_⟩⟩, fun p hp => ?_⟩
    · rw [List.getElem?_map]
      cases hp : ps[i]? with
      | none => rw [List.getElem?_eq_none (by rw [← hl]; exact List.getElem?_eq_none_iff.1 hp)]; rfl
      | some p => obtain ⟨x, h8, h9, _⟩ := hat i p hp; rw [h8, ← h9]; rfl
    · obtain ⟨x, h8, h9, h10, h11, _⟩ := hat i p hp
      exact ⟨prow p, ⟨rfl, h10⟩, h11⟩
    · obtain ⟨i, hi, rfl⟩ := List.getElem_of_mem hp
      obtain ⟨x, _, _, _, _, h12⟩ := hat i _ (List.getElem?_eq_getElem hi)
      exact h12
  · obtain rfl : xs = [] := List.length_eq_zero_iff.1 (by omega)
    exact ⟨[], rfl, ⟨a, c, rfl, Nat.zero_le _, h2, fun h => absurd h (by simp)⟩, fun p hp => by cases hp⟩

set_option maxRecDepth 100000 in
set_option maxHeartbeats 1000000 in
theorem cloneInt_o (xs : List Int) (u : Value) (lo : Nat) (hlen : xs.length ≤ 1048576) (w : World) (hu : Sl IntR 1 lo w u xs) :
    Calls Tryz.prog 117 #[u] w fun e w' => ∃ v, e = .returned v ∧ OwnF 3 1 intRow I64 w.heap.size w' v xs ∧ Below w.heap.size w w' := by
  have Hu := hu
  obtain ⟨a, c, rfl, l1, m1, hh⟩ := hu
  obtain ⟨i0, hi0, hz0, hz1, hz2⟩ := info_parts info_IntQ
  have qn : ∀ (w : World) (a : Option Addr) (n c n' c' : Nat), (binOp .eql 44 (.slice a n c) (.slice none n' c')).run Tryz.prog w = .ok (.bool a.isNone) w := fun w a n c n' c' => Lib.run_eql_slice_nil w _ _ a n c n' c' Tryz.underlying44
  have I := Lib.hid hi0; have I0 := Lib.hid hz0; have I1 := Lib.hid hz1; have I2 := Lib.hid hz2
  clear hi0 hz0 hz1 hz2
  cases a with
  | none =>
    obtain rfl : xs = [] := slice_none' hh
    clear Hu hh
    simp only [List.length_nil]
    go_enter Tryz.func117, Tryz.ntmps117
    go_wp2_with fail
    go_returns
    exact ⟨_, rfl, OwnF.empty, by go_grown⟩
  | some a =>
    have hO := own_new w #[] 3 1 0 rfl (by unfold maxLen; omega) w.heap.size (Nat.le_refl _)
    replace Hu := Lib.hid Hu
    generalize hn : xs.length = n at *
    replace hn := Lib.hid hn
    clear hh
    go_enter Tryz.func117, Tryz.ntmps117
    go_wp2_with (at_builtin; refine wpList_append_sl _ flatInt rfl _ _ _ rfl w.heap.size 3 i0 _ 8 Tryz.underlying44 I.out I0.out I1.out I2.out rfl w.heap.size 0 0 [] rfl hO lo _ xs rfl (Hu.out.below IntR.good (by go_grown)) (by rw [hn.out]; unfold maxLen; omega) (by rw [hn.out]; omega) (by simp) ?_; rw [hn.out]; intro g cap w2 hown hgrow hg)
    have hb2 : Below w.heap.size w w2 := below_grown (by go_grown) (by simp) hO hgrow
    go_returns
    refine ⟨_, rfl, ⟨?_, flatInt.wfs Hu.out⟩, hb2⟩
    rw [hn.out]
    simpa using hown

set_option maxRecDepth 100000 in
set_option maxHeartbeats 1000000 in
theorem clonePNode_o (xs : List PRow) (u : Value) (lo : Nat) (hlen : xs.length ≤ 1048576) (w : World) (hu : Sl PRowR 4 lo w u xs) :
    Calls Tryz.prog 116 #[u] w fun e w' => ∃ v, e = .returned v ∧ OwnF 133 4 prow pwf w.heap.size w' v xs ∧ Below w.heap.size w w' := by
  have Hu := hu
  have hgood : PRowR.Good := ⟨fun h _ => h, fun h _ => h⟩
  obtain ⟨a, c, rfl, l1, m1, hh⟩ := hu
  obtain ⟨i0, hi0, hz0, hz1, hz2⟩ := info_parts info_PNodeQ
  have qn : ∀ (w : World) (a : Option Addr) (n c n' c' : Nat), (binOp .eql 103 (.slice a n c) (.slice none n' c')).run Tryz.prog w = .ok (.bool a.isNone) w := fun w a n c n' c' => Lib.run_eql_slice_nil w _ _ a n c n' c' Tryz.underlying103
  have I := Lib.hid hi0; have I0 := Lib.hid hz0; have I1 := Lib.hid hz1; have I2 := Lib.hid hz2
  clear hi0 hz0 hz1 hz2
  cases a with
  | none =>
    obtain rfl : xs = [] := slice_none' hh
    clear Hu hh
    simp only [List.length_nil]
    go_enter Tryz.func116, Tryz.ntmps116
    go_wp2_with fail
    go_returns
    exact ⟨_, rfl, OwnF.empty, by go_grown⟩
  | some a =>
    have hO := own_new w #[] 133 4 0 rfl (by unfold maxLen; omega) w.heap.size (Nat.le_refl _)
    replace Hu := Lib.hid Hu
    generalize hn : xs.length = n at *
    replace hn := Lib.hid hn
    clear hh
    go_enter Tryz.func116, Tryz.ntmps116
    go_wp2_with (at_builtin; refine wpList_append_sl _ flatP rfl _ _ _ rfl w.heap.size 133 i0 _ 56 Tryz.underlying103 I.out I0.out I1.out I2.out rfl w.heap.size 0 0 [] rfl hO lo _ xs rfl (Hu.out.below hgood (by go_grown)) (by rw [hn.out]; unfold maxLen; omega) (by rw [hn.out]; omega) (by simp) ?_; rw [hn.out]; intro g cap w2 hown hgrow hg)
    have hb2 : Below w.heap.size w w2 := below_grown (by go_grown) (by simp) hO hgrow
    go_returns
    refine ⟨_, rfl, ⟨?_, flatP.wfs Hu.out⟩, hb2⟩
    rw [hn.out]
    simpa using hown

end Go.Proofs.YtnmmfcnkpcigoaaGreat
