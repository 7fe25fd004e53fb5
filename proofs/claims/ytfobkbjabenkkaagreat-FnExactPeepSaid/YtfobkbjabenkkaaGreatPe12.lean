/- Parts of the proof, merged: FtPat, FtCode, Copy. -/
import Derived.OwnWalk
import Derived.Test.YtfobkbjabenkkaaGreatPe11
/- What the laws' to functions make of Pat is the call's own: printed by gen_footto.py. -/
namespace Go.Proofs.YtfobkbjabenkkaaGreat
open Go.RowKit
set_option linter.unusedVariables false
set_option linter.unusedSimpArgs false
attribute [local go_sem] Ext.cell

set_option maxRecDepth 100000 in
set_option maxHeartbeats 2000000 in
theorem toPat_o (x : GPat) (r : List Value) (lo : Nat) (hl : x.bulk ≤ 1048576) (w : World) (hx : GPat.R lo w r x) :
    Calls Tryz.prog 39 #[.agg r.toArray] w fun e w' => ∃ r' bs, e = .returned (.agg r'.toArray) ∧ GPat.O bs w' r' x ∧ bs.Nodup ∧ (∀ b ∈ bs, w.heap.size ≤ b) ∧ Below w.heap.size w w' := by
  obtain ⟨x0⟩ := x
  obtain ⟨u0, rfl, _, a0⟩ := hx
  dsimp only at *
  have z0 := bulkS_nonneg GPNode.bulk_nonneg x0
  simp only [GPat.bulk] at hl
  go_enter Tryz.func39, Tryz.ntmps39
  go_wp2_with (first | (go_at_call 67; ((with_reducible refine (toPNodeS_o x0 u0 lo ?_ _ ?_).mono ?_); omega; exact a0.below GPNode.good (by go_grown); rintro e w1 ⟨v0, p0, rfl, c0, d0, fr0, hb⟩; have hf0 : ∀ b ∈ p0, w.heap.size + 3 ≤ b := (fun b h => Nat.le_trans (by (try simp only [World.size_alloc, World.size_setCell, World.size_drew]); omega) (fr0 b h)); obtain ⟨av0, cv0, rfl⟩ := c0.form; clear fr0; have hw : Below w.heap.size w w1 := Below.trans (by go_grown) (hb.mono (by go_grown)); obtain ⟨hc, hf⟩ := bcell hb; have hz := hw.size; have hz1 := hb.size; have hs0 : w.heap.size < w1.heap.size := (by have h := hz1; (try simp only [World.size_alloc, World.size_setCell, World.size_drew] at h); omega); have hs1 : w.heap.size + 1 < w1.heap.size := (by have h := hz1; (try simp only [World.size_alloc, World.size_setCell, World.size_drew] at h); omega); have hs2 : w.heap.size + 1 + 1 < w1.heap.size := (by have h := hz1; (try simp only [World.size_alloc, World.size_setCell, World.size_drew] at h); omega); clear hb)))
  refine bodyPost_ret (v := .agg #[.slice av0 x0.length cv0]) (by simp [results, Tryz.results39, go_sem, *]) rfl ?_
  refine ⟨[.slice av0 x0.length cv0], p0, rfl, ⟨_, rfl, trivial, (c0.kept GPNode.ok (S := fun b => b < w.heap.size + 3) (by repeat' (first | with_reducible exact Kept.refl _ _ | with_reducible refine Kept.set ?_ ?_ _ | (dsimp only; omega))) (fun b h hs => by have := hf0 b h; omega))⟩, d0, fun b h => (by have := hf0 b h; omega), by go_grown⟩

set_option maxRecDepth 100000 in
set_option maxHeartbeats 2000000 in
theorem toPatS_o (x : List GPat) (u : Value) (lo : Nat) (hlen : bulkS GPat.bulk x ≤ 1048576) (w : World) (hx : Sl GPat.R 1 lo w u x) :
    Calls Tryz.prog 19 #[u] w fun e w' => ∃ v bs, e = .returned v ∧ SlO 55 1 GPat.O bs w' v x ∧ bs.Nodup ∧ (∀ b ∈ bs, w.heap.size ≤ b) ∧ Below w.heap.size w w' := by
  obtain ⟨a1, c1, rfl, l1, m1, hh⟩ := hx
  obtain ⟨n, hn⟩ : ∃ n, n = x.length := ⟨_, rfl⟩
  have hlen1 : x.length ≤ 1048576 := by have := length_le_bulkS (f := GPat.bulk) GPat.bulk_nonneg x; omega
  have hle : ∀ {k : Nat} {p : GPat}, x[k]? = some p → GPat.bulk p ≤ 1048576 := fun hp => by have := le_bulkS (f := GPat.bulk) GPat.bulk_nonneg hp; omega
  clear hlen
  rw [← hn] at l1 hlen1 ⊢
  have X1 := Lib.hid hn
  clear hn
  obtain ⟨i0, hi, hi0, hi1, hi2⟩ := info_parts info_PatS
  have I := Lib.hid hi; have I0 := Lib.hid hi0; have I1 := Lib.hid hi1; have I2 := Lib.hid hi2
  clear hi hi0 hi1 hi2
  go_enter Tryz.func19, Tryz.ntmps19
  go_wp2_with (at_make; refine wpList_make_full _ rfl _ _ _ rfl w.heap.size 55 i0 _ 1 Tryz.underlying28 I.out I0.out I1.out _ _ _ _ n rfl rfl rfl rfl (by rw [I2.out]; omega) (by unfold maxLen; omega) (Nat.le_refl _) ?_; intro w1 hO hgw)
  have hb1 : Below w.heap.size w w1 := (Below.refl w.heap.size w).grown (row := none) hgw (Nat.le_refl _) (by simp)
  have hs1 : w.heap.size < w1.heap.size := (own_base hO _ rfl).2
  have O1 : FillO 55 1 GPat.O w.heap.size w1 w.heap.size n 0 [] x := FillO.made hO x
  replace O1 := Lib.hid O1
  clear hO hgw
  go_loopw [4] (fun i wr => ∃ (k : Nat) (ps : List (List Nat)), k ≤ n ∧ i = .int .i64 k ∧ Below w.heap.size w wr ∧ w.heap.size + 1 ≤ wr.heap.size ∧ Hid (FillO 55 1 GPat.O w.heap.size wr w.heap.size n k ps x) ∧ Hid (ps.flatten.Nodup) ∧ Hid (∀ b ∈ ps.flatten, w.heap.size + 1 ≤ b ∧ b < wr.heap.size)) (fun i _ => n - (intOf i).toNat)
  case atStart => exact ⟨0, [], by omega, rfl, hb1, by omega, O1, List.nodup_nil, fun b h => by cases h⟩
  case round =>
    clear hs1 hb1 O1
    obtain ⟨k, ps, hk, rfl, hw, hz, hO, hN, hL⟩ := hrel
    by_cases hlt : k < n
    · obtain ⟨b1, o1, p, s1, _, rfl, P1, q1, r1⟩ := (hh.below GPat.good hw).get X1 hlt
      have Q1 := q1
      obtain ⟨s0, rfl, _, _⟩ := q1
      have R1 : wr.cell? ⟨b1, o1 + k, none⟩ = some (s0) := (by simpa using r1 0 _ rfl)
      clear r1
      go_wp2_with (go_at_call 39; refine (toPat_o p _ _ (hle P1.out) _ Q1).mono ?_; rintro e w2 ⟨r2, p2, rfl, q3, hnd2, hfr2, hb2⟩; have Q3 := Lib.hid q3; obtain ⟨t0, rfl, hwf0, g0⟩ := q3; obtain ⟨at0, ct0, rfl⟩ := g0.form; clear g0; have hA2 := ((hO.out.below GPat.ok hb2).arr (by omega)).2.2; have hO2 := Lib.hid (hO.out.below GPat.ok hb2); have hw2 := hw.trans (hb2.mono hw.size); have hz2 := hb2.size; have hl2 := GPat.ok.lt Q3.out; replace hl2 := Lib.hid hl2; replace hfr2 := Lib.hid hfr2; replace hnd2 := Lib.hid hnd2; clear hb2 hw hO R1; obtain ⟨d0, e0, f0⟩ := hA2 (k) (by omega))
      have hl2' : ∀ b ∈ (p2 : List Nat), b < w2.heap.size := hl2.out
      have hf2' : ∀ b ∈ (p2 : List Nat), wr.heap.size ≤ b := hfr2.out
      go_roundw
      case rel => exact ⟨k + 1, ps ++ [p2], by omega, by go_num, hw2.trans (below_storeRow w.heap.size [.slice at0 p.nodes.length ct0] w2 (k)), Nat.le_trans hz (Nat.le_trans hz2 (Nat.le_of_eq (size_storeRow w.heap.size [.slice at0 p.nodes.length ct0] w2 (k)).symm)),
        (hO2.out.step GPat.ok hlt (off := k) (r := [.slice at0 p.nodes.length ct0]) (by omega) P1.out rfl Q3.out (fun h => by have := hL.out _ h; omega) (fun h => by have := hf2' _ h; omega)),
        by show (ps ++ [p2]).flatten.Nodup; rw [List.flatten_append, List.flatten_singleton]; exact List.nodup_append.2 ⟨hN.out, hnd2.out, fun b h b2 h2 e => by subst e; have := hL.out _ h; have := hf2' _ h2; omega⟩,
        fun b h => by
          rw [List.flatten_append, List.flatten_singleton] at h
          rcases List.mem_append.1 h with h | h
          · have := hL.out _ h; exact ⟨this.1, Nat.lt_of_lt_of_le this.2 (Nat.le_trans hz2 (Nat.le_of_eq (size_storeRow w.heap.size [.slice at0 p.nodes.length ct0] w2 (k)).symm))⟩
          · have h1 := hf2' _ h; have h2 := hl2' _ h; exact ⟨by omega, Nat.lt_of_lt_of_le h2 (Nat.le_of_eq (size_storeRow w.heap.size [.slice at0 p.nodes.length ct0] w2 (k)).symm)⟩⟩
      case measure => simp [intOf]; omega
    · go_wp2
      go_returns
      obtain rfl : k = n := by omega
      exact ⟨_, _, rfl, (hO.out.full X1.out).slO, List.nodup_cons.2 ⟨fun h => by have := (hL.out _ h).1; dsimp only at this; omega, hN.out⟩, fun b h => by
        rcases List.mem_cons.1 h with h | h
        · dsimp only at h; omega
        · have := (hL.out _ h).1; omega, hw⟩

end Go.Proofs.YtfobkbjabenkkaaGreat

/- What the laws' to functions make of Code is the call's own: printed by gen_footto.py. -/
namespace Go.Proofs.YtfobkbjabenkkaaGreat
open Go.RowKit
set_option linter.unusedVariables false
set_option linter.unusedSimpArgs false
attribute [local go_sem] Ext.cell

set_option maxRecDepth 100000 in
set_option maxHeartbeats 2000000 in
theorem toCode_o (x : GCode) (r : List Value) (lo : Nat) (hl : x.bulk ≤ 1048576) (w : World) (hx : GCode.R lo w r x) :
    Calls Tryz.prog 6 #[.agg r.toArray] w fun e w' => ∃ r' bs, e = .returned (.agg r'.toArray) ∧ GCode.O bs w' r' x ∧ bs.Nodup ∧ (∀ b ∈ bs, w.heap.size ≤ b) ∧ Below w.heap.size w w' := by
  obtain ⟨x0, x1⟩ := x
  obtain ⟨u0, u1, rfl, _, a0, a1⟩ := hx
  dsimp only at *
  have z0 := bulkS_nonneg GIns.bulk_nonneg x0
  have z1 := bulkS_nonneg GPat.bulk_nonneg x1
  simp only [GCode.bulk] at hl
  go_enter Tryz.func6, Tryz.ntmps6
  go_wp2_with (first | (go_at_call 18; ((with_reducible refine (toInsS_o x0 u0 lo ?_ _ ?_).mono ?_); omega; exact a0.below GIns.good (by go_grown); rintro e w1 ⟨v0, p0, rfl, c0, d0, fr0, hb⟩; have hf0 : ∀ b ∈ p0, w.heap.size + 3 ≤ b := (fun b h => Nat.le_trans (by (try simp only [World.size_alloc, World.size_setCell, World.size_drew]); omega) (fr0 b h)); obtain ⟨av0, cv0, rfl⟩ := c0.form; clear fr0; have hw : Below w.heap.size w w1 := Below.trans (by go_grown) (hb.mono (by go_grown)); obtain ⟨hc, hf⟩ := bcell hb; have hz := hw.size; have hz1 := hb.size; have hs0 : w.heap.size < w1.heap.size := (by have h := hz1; (try simp only [World.size_alloc, World.size_setCell, World.size_drew] at h); omega); have hs1 : w.heap.size + 1 < w1.heap.size := (by have h := hz1; (try simp only [World.size_alloc, World.size_setCell, World.size_drew] at h); omega); have hs2 : w.heap.size + 1 + 1 < w1.heap.size := (by have h := hz1; (try simp only [World.size_alloc, World.size_setCell, World.size_drew] at h); omega); clear hb)) | (go_at_call 19; ((with_reducible refine (toPatS_o x1 u1 lo ?_ _ ?_).mono ?_); omega; exact a1.below GPat.good (by go_grown); rintro e w1 ⟨v1, p1, rfl, c1, d1, fr1, hb⟩; have gt0 := c0.lt GIns.ok; have c0 := SlO.below GIns.ok (SlO.kept GIns.ok (S := fun b => b < w.heap.size + 3) c0 (by repeat' (first | with_reducible exact Kept.refl _ _ | with_reducible refine Kept.set ?_ ?_ _ | (dsimp only; omega))) (fun b h hs => by have := hf0 b h; omega)) hb; have x0_1 : ∀ b ∈ p1, b ∉ p0 := (fun b h h2 => by have h3 := fr1 b h; have h4 := gt0 b h2; (try simp only [World.size_alloc, World.size_setCell, World.size_drew] at h3); omega); have hf1 : ∀ b ∈ p1, w.heap.size + 3 ≤ b := (fun b h => Nat.le_trans (by (try simp only [World.size_alloc, World.size_setCell, World.size_drew]); omega) (fr1 b h)); obtain ⟨av1, cv1, rfl⟩ := c1.form; clear fr1; have hw : Below w.heap.size w w1 := Below.trans (by go_grown) (hb.mono (by go_grown)); obtain ⟨hc, hf⟩ := bcell hb; have hz := hw.size; have hz1 := hb.size; have hs0 : w.heap.size < w1.heap.size := (by have h := hz1; (try simp only [World.size_alloc, World.size_setCell, World.size_drew] at h); omega); have hs1 : w.heap.size + 1 < w1.heap.size := (by have h := hz1; (try simp only [World.size_alloc, World.size_setCell, World.size_drew] at h); omega); have hs2 : w.heap.size + 1 + 1 < w1.heap.size := (by have h := hz1; (try simp only [World.size_alloc, World.size_setCell, World.size_drew] at h); omega); clear hb)))
  refine bodyPost_ret (v := .agg #[.slice av0 x0.length cv0, .slice av1 x1.length cv1]) (by simp [results, Tryz.results6, go_sem, *]) rfl ?_
  refine ⟨[.slice av0 x0.length cv0, .slice av1 x1.length cv1], p0 ++ p1, rfl, ⟨_, p0, _, p1, rfl, rfl, trivial, (c0.kept GIns.ok (S := fun b => b < w.heap.size + 3) (by repeat' (first | with_reducible exact Kept.refl _ _ | with_reducible refine Kept.set ?_ ?_ _ | (dsimp only; omega))) (fun b h hs => by have := hf0 b h; omega)), (c1.kept GPat.ok (S := fun b => b < w.heap.size + 3) (by repeat' (first | with_reducible exact Kept.refl _ _ | with_reducible refine Kept.set ?_ ?_ _ | (dsimp only; omega))) (fun b h hs => by have := hf1 b h; omega))⟩, List.nodup_append.2 ⟨d0, d1, fun b h b2 h2 e => x0_1 b2 h2 (e ▸ h)⟩, fun b h => (by rcases List.mem_append.1 h with h | h; (have := hf0 b h; omega); (have := hf1 b h; omega)), by go_grown⟩

end Go.Proofs.YtfobkbjabenkkaaGreat

/- Copies of code: slices.Clone; a pattern's copy. -/
namespace Go.Proofs.YtfobkbjabenkkaaGreat
open Go.RowKit
set_option linter.unusedVariables false
set_option linter.unusedSimpArgs false
attribute [local go_sem] Ext.cell

theorem OwnF.slO {α : Type} {R : Reading α} {sz : Nat} {f : α → List Value} {wf : α → Prop} {e : TypeId} {lo : Nat} {w : World} {v : Value} {xs : List α} (F : Flat R sz f wf) (h : OwnF e sz f wf lo w v xs) :
    ∃ bs, SlO e sz (FlatO f wf) bs w v xs ∧ bs.Nodup ∧ ∀ b ∈ bs, lo ≤ b := by
  have hp : (xs.map fun _ => ([] : List Nat)).flatten = [] := by
    induction xs with
    | nil => rfl
    | cons x xs ih => simp
  have hG : GrowO e sz (FlatO f wf) lo w v (xs.map fun _ => []) xs := ⟨xs.map f, h.1, ⟨by simp, by simp, fun r hr => by obtain ⟨x, _, rfl⟩ := List.mem_map.1 hr; exact F.len x, fun i p r x h1 h2 h3 => by
    rw [List.getElem?_map, h3] at h1 h2
    simp at h1 h2
    exact ⟨by first | exact h1 | exact h1.symm, by first | exact h2 | exact h2.symm, h.2 x (List.mem_of_getElem? h3)⟩⟩⟩
  refine ⟨_, hG.slO, ?_, fun b hb => ?_⟩
  · unfold fpO
    rw [hp, List.append_nil]
    cases v.ownBlock with
    | none => exact List.nodup_nil
    | some g => simp
  · rw [mem_fpO, hp] at hb
    rcases hb with hb | hb
    · exact (own_base h.1 b hb).1
    · cases hb

theorem slice_none' {α : Type} {R : Reading α} {sz lo : Nat} {w : World} {xs : List α} (h : SlAt R sz lo w none xs) : xs = [] := by
  rcases Nat.eq_zero_or_pos xs.length with h0 | h0
  · exact List.length_eq_zero_iff.1 h0
  · obtain ⟨b, off, _, ha, _⟩ := h h0
    cases ha

theorem list_choice {α : Type} {P : Nat → α → Prop} : ∀ n : Nat, (∀ i, i < n → ∃ p, P i p) → ∃ ps : List α, ps.length = n ∧ ∀ i p, ps[i]? = some p → P i p
  | 0, _ => ⟨[], rfl, fun i p h => by simp at h⟩
  | n + 1, h => by
    obtain ⟨ps, h1, h2⟩ := list_choice n fun i hi => h i (by omega)
    obtain ⟨q, hq⟩ := h n (by omega)
    refine ⟨ps ++ [q], by simp [h1], fun i p hp => ?_⟩
    rcases Nat.lt_trichotomy i n with hi | hi | hi
    · rw [List.getElem?_append_left (by omega)] at hp; exact h2 i p hp
    · subst hi
      rw [List.getElem?_append_right (by omega), h1, Nat.sub_self] at hp
      simp at hp; subst hp; exact hq
    · rw [List.getElem?_eq_none (by simp [h1]; omega)] at hp; cases hp
/-- A node's cells as they lie. -/
def PRow : Type := GPNode × Option Addr × Nat
def prow (p : PRow) : List Value := [.int .i64 p.1.kind, .int .i64 p.1.n, .string p.1.s, .slice p.2.1 p.1.kids.length p.2.2]
def pwf (p : PRow) : Prop := p.1.wf
def PRowR : Reading PRow := fun _ _ r p => r = prow p ∧ pwf p
theorem flatP : Flat PRowR 4 prow pwf := ⟨fun h => h, fun h _ _ => ⟨rfl, h⟩, fun _ => rfl, fun _ u hu => by simp [prow] at hu; rcases hu with rfl | rfl | rfl | rfl <;> rfl, by decide⟩
theorem sl_rows {lo : Nat} {w : World} {v : Value} {xs : List GPNode} (h : Sl GPNode.R 4 lo w v xs) : ∃ ps : List PRow, ps.map (·.1) = xs ∧ Sl PRowR 4 lo w v ps ∧ ∀ p ∈ ps, Sl IntR 1 lo w (.slice p.2.1 p.1.kids.length p.2.2) p.1.kids := by
  obtain ⟨a, c, rfl, h1, h2, h3⟩ := h
  by_cases h0 : 0 < xs.length
  · obtain ⟨b, off, h4, rfl, h6⟩ := h3 h0
    have hx : ∀ (i : Nat) x, xs[i]? = some x → ∃ p : PRow, p.1 = x ∧ pwf p ∧ RowAt w b (off + i * 4) (prow p) ∧ Sl IntR 1 lo w (.slice p.2.1 p.1.kids.length p.2.2) p.1.kids := fun i x hx => by
      obtain ⟨r, ⟨u0, rfl, hwf, s0⟩, hr⟩ := h6 i x hx
      obtain ⟨ka, kc, rfl⟩ := s0.form
      exact ⟨(x, ka, kc), rfl, hwf, hr, s0⟩
    obtain ⟨ps, hl, hat⟩ := list_choice (P := fun i p => ∃ x, xs[i]? = some x ∧ p.1 = x ∧ pwf p ∧ RowAt w b (off + i * 4) (prow p) ∧ Sl IntR 1 lo w (.slice p.2.1 p.1.kids.length p.2.2) p.1.kids) xs.length (fun i hi => by
      obtain ⟨p, hp⟩ := hx i _ (List.getElem?_eq_getElem hi)
      exact ⟨p, _, List.getElem?_eq_getElem hi, hp⟩)
    refine ⟨ps, List.ext_getElem? fun i => ?_, ⟨_, c, by rw [hl], by rw [hl]; exact h1, h2, fun _ => ⟨b, off, h4, rfl, fun i p hp => ?_⟩⟩, fun p hp => ?_⟩
    · rw [List.getElem?_map]
      cases hp : ps[i]? with
      | none => rw [List.getElem?_eq_none (by rw [← hl]; exact List.getElem?_eq_none_iff.1 hp)]; rfl
      | some p => obtain ⟨x, h8, h9, _⟩ := hat i p hp; rw [h8, ← h9]; rfl
    · obtain ⟨x, h8, h9, h10, h11, _⟩ := hat i p hp
      exact ⟨prow p, ⟨rfl, h10⟩, h11⟩
    · obtain ⟨i, hi, rfl⟩ := List.getElem_of_mem hp
      obtain ⟨x, _, _, _, _, h12⟩ := hat i _ (List.getElem?_eq_getElem hi)
      exact h12
  · obtain rfl : xs = [] := List.length_eq_zero_iff.1 (by omega)
    exact ⟨[], rfl, ⟨a, c, rfl, Nat.zero_le _, h2, fun h => absurd h (by simp)⟩, fun p hp => by cases hp⟩

set_option maxRecDepth 100000 in
set_option maxHeartbeats 1000000 in
theorem cloneInt_o (xs : List Int) (u : Value) (lo : Nat) (hlen : xs.length ≤ 1048576) (w : World) (hu : Sl IntR 1 lo w u xs) :
    Calls Tryz.prog 112 #[u] w fun e w' => ∃ v, e = .returned v ∧ OwnF 3 1 intRow I64 w.heap.size w' v xs ∧ Below w.heap.size w w' := by
  have Hu := hu
  obtain ⟨a, c, rfl, l1, m1, hh⟩ := hu
  obtain ⟨i0, hi0, hz0, hz1, hz2⟩ := info_parts info_IntS
  have qn : ∀ (w : World) (a : Option Addr) (n c n' c' : Nat), (binOp .eql 60 (.slice a n c) (.slice none n' c')).run Tryz.prog w = .ok (.bool a.isNone) w := fun w a n c n' c' => Lib.run_eql_slice_nil w _ _ a n c n' c' Tryz.underlying60
  have I := Lib.hid hi0; have I0 := Lib.hid hz0; have I1 := Lib.hid hz1; have I2 := Lib.hid hz2
  clear hi0 hz0 hz1 hz2
  cases a with
  | none =>
    obtain rfl : xs = [] := slice_none' hh
    clear Hu hh
    simp only [List.length_nil]
    go_enter Tryz.func112, Tryz.ntmps112
    go_wp2_with fail
    go_returns
    exact ⟨_, rfl, OwnF.empty, by go_grown⟩
  | some a =>
    have hO := own_new w #[] 3 1 0 rfl (by unfold maxLen; omega) w.heap.size (Nat.le_refl _)
    replace Hu := Lib.hid Hu
    generalize hn : xs.length = n at *
    replace hn := Lib.hid hn
    clear hh
    go_enter Tryz.func112, Tryz.ntmps112
    go_wp2_with (at_builtin; refine wpList_append_sl _ flatInt rfl _ _ _ rfl w.heap.size 3 i0 _ 8 Tryz.underlying60 I.out I0.out I1.out I2.out rfl w.heap.size 0 0 [] rfl hO lo _ xs rfl (Hu.out.below IntR.good (by go_grown)) (by rw [hn.out]; unfold maxLen; omega) (by rw [hn.out]; omega) (by simp) ?_; rw [hn.out]; intro g cap w2 hown hgrow hg)
    have hb2 : Below w.heap.size w w2 := below_grown (by go_grown) (by simp) hO hgrow
    go_returns
    refine ⟨_, rfl, ⟨?_, flatInt.wfs Hu.out⟩, hb2⟩
    rw [hn.out]
    simpa using hown

set_option maxRecDepth 100000 in
set_option maxHeartbeats 1000000 in
theorem cloneIns_o (xs : List GIns) (u : Value) (lo : Nat) (hlen : xs.length ≤ 1048576) (w : World) (hu : Sl GIns.R 4 lo w u xs) :
    Calls Tryz.prog 78 #[u] w fun e w' => ∃ v, e = .returned v ∧ OwnF 57 4 insRow GIns.wf w.heap.size w' v xs ∧ Below w.heap.size w w' := by
  have Hu := hu
  obtain ⟨a, c, rfl, l1, m1, hh⟩ := hu
  obtain ⟨i0, hi0, hz0, hz1, hz2⟩ := info_parts info_InsS
  have qn : ∀ (w : World) (a : Option Addr) (n c n' c' : Nat), (binOp .eql 27 (.slice a n c) (.slice none n' c')).run Tryz.prog w = .ok (.bool a.isNone) w := fun w a n c n' c' => Lib.run_eql_slice_nil w _ _ a n c n' c' Tryz.underlying27
  have I := Lib.hid hi0; have I0 := Lib.hid hz0; have I1 := Lib.hid hz1; have I2 := Lib.hid hz2
  clear hi0 hz0 hz1 hz2
  cases a with
  | none =>
    obtain rfl : xs = [] := slice_none' hh
    clear Hu hh
    simp only [List.length_nil]
    go_enter Tryz.func78, Tryz.ntmps78
    go_wp2_with fail
    go_returns
    exact ⟨_, rfl, OwnF.empty, by go_grown⟩
  | some a =>
    have hO := own_new w #[] 57 4 0 rfl (by unfold maxLen; omega) w.heap.size (Nat.le_refl _)
    replace Hu := Lib.hid Hu
    generalize hn : xs.length = n at *
    replace hn := Lib.hid hn
    clear hh
    go_enter Tryz.func78, Tryz.ntmps78
    go_wp2_with (at_builtin; refine wpList_append_sl _ flatIns rfl _ _ _ rfl w.heap.size 57 i0 _ 40 Tryz.underlying27 I.out I0.out I1.out I2.out rfl w.heap.size 0 0 [] rfl hO lo _ xs rfl (Hu.out.below GIns.good (by go_grown)) (by rw [hn.out]; unfold maxLen; omega) (by rw [hn.out]; omega) (by simp) ?_; rw [hn.out]; intro g cap w2 hown hgrow hg)
    have hb2 : Below w.heap.size w w2 := below_grown (by go_grown) (by simp) hO hgrow
    go_returns
    refine ⟨_, rfl, ⟨?_, flatIns.wfs Hu.out⟩, hb2⟩
    rw [hn.out]
    simpa using hown

set_option maxRecDepth 100000 in
set_option maxHeartbeats 1000000 in
theorem clonePNode_o (xs : List PRow) (u : Value) (lo : Nat) (hlen : xs.length ≤ 1048576) (w : World) (hu : Sl PRowR 4 lo w u xs) :
    Calls Tryz.prog 111 #[u] w fun e w' => ∃ v, e = .returned v ∧ OwnF 77 4 prow pwf w.heap.size w' v xs ∧ Below w.heap.size w w' := by
  have Hu := hu
  have hgood : PRowR.Good := ⟨fun h _ => h, fun h _ => h⟩
  obtain ⟨a, c, rfl, l1, m1, hh⟩ := hu
  obtain ⟨i0, hi0, hz0, hz1, hz2⟩ := info_parts info_PNodeS
  have qn : ∀ (w : World) (a : Option Addr) (n c n' c' : Nat), (binOp .eql 53 (.slice a n c) (.slice none n' c')).run Tryz.prog w = .ok (.bool a.isNone) w := fun w a n c n' c' => Lib.run_eql_slice_nil w _ _ a n c n' c' Tryz.underlying53
  have I := Lib.hid hi0; have I0 := Lib.hid hz0; have I1 := Lib.hid hz1; have I2 := Lib.hid hz2
  clear hi0 hz0 hz1 hz2
  cases a with
  | none =>
    obtain rfl : xs = [] := slice_none' hh
    clear Hu hh
    simp only [List.length_nil]
    go_enter Tryz.func111, Tryz.ntmps111
    go_wp2_with fail
    go_returns
    exact ⟨_, rfl, OwnF.empty, by go_grown⟩
  | some a =>
    have hO := own_new w #[] 77 4 0 rfl (by unfold maxLen; omega) w.heap.size (Nat.le_refl _)
    replace Hu := Lib.hid Hu
    generalize hn : xs.length = n at *
    replace hn := Lib.hid hn
    clear hh
    go_enter Tryz.func111, Tryz.ntmps111
    go_wp2_with (at_builtin; refine wpList_append_sl _ flatP rfl _ _ _ rfl w.heap.size 77 i0 _ 56 Tryz.underlying53 I.out I0.out I1.out I2.out rfl w.heap.size 0 0 [] rfl hO lo _ xs rfl (Hu.out.below hgood (by go_grown)) (by rw [hn.out]; unfold maxLen; omega) (by rw [hn.out]; omega) (by simp) ?_; rw [hn.out]; intro g cap w2 hown hgrow hg)
    have hb2 : Below w.heap.size w w2 := below_grown (by go_grown) (by simp) hO hgrow
    go_returns
    refine ⟨_, rfl, ⟨?_, flatP.wfs Hu.out⟩, hb2⟩
    rw [hn.out]
    simpa using hown

end Go.Proofs.YtfobkbjabenkkaaGreat
