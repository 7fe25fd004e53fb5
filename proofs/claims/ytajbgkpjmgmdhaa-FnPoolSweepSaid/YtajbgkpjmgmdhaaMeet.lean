/- copied's closure: a place is met. -/
import Derived.Test.YtajbgkpjmgmdhaaPoolOwn
import Derived.Test.YtajbgkpjmgmdhaaFill
import Derived.Test.YtajbgkpjmgmdhaaGraph
import Derived.Shelf.Abstract
namespace Go.Proofs.Ytajbgkpjmgmdhaa
open Go.RowKit
set_option linter.unusedVariables false
set_option linter.unusedSimpArgs false
attribute [local go_sem] Ext.cell

/-- What the closure shares with copied: the places of the old cells (a slice in box bA), the order (a slice in box bO). -/
structure MSt (lo : Nat) (w : World) (bA bO ga n : Nat) (s : BfsS) : Prop where
  boxA : RowAt w bA 0 [.slice (some ⟨ga, 0, none⟩) n n]
  own : OwnInts lo w (.slice (some ⟨ga, 0, none⟩) n n) s.2
  len : s.2.length = n
  boxO : ∃ ov, RowAt w bO 0 [ov] ∧ OwnInts lo w ov s.1 ∧ ∀ g, ov.ownBlock = some g → g ≠ ga ∧ g ≠ bA ∧ g ≠ bO
  wrO : Wr w bO 0 1
  ne : bA ≠ bO ∧ bA ≠ ga ∧ bO ≠ ga
  lo_ : lo ≤ bO
theorem MSt.below {lo : Nat} {w w' : World} {bA bO ga n : Nat} {s : BfsS} (h : MSt lo w bA bO ga n s) (hb : Below w.heap.size w w') : MSt lo w' bA bO ga n s :=
  let ⟨ov, h1, h2, h3⟩ := h.boxO
  ⟨h.boxA.below hb, h.own.below hb, h.len, ⟨ov, h1.below hb, h2.below hb, h3⟩, h.wrO.below hb, h.ne, h.lo_⟩

theorem RowAt.one {w : World} {b : Nat} {u : Value} (h : w.cell? ⟨b, 0, none⟩ = some u) : RowAt w b 0 [u] := fun j c hc => by
  rcases j with _ | j
  · obtain rfl : u = c := by simpa using hc
    exact h
  · simp at hc

set_option maxRecDepth 100000 in
set_option maxHeartbeats 4000000 in
theorem meet_c (v : GVal) (s : BfsS) (lo bA bO ga n : Nat) (hn : n ≤ 1048576) (hv : IsCell n v) (hle : s.1.length ≤ n) (w : World) (M : MSt lo w bA bO ga n s) (hlo : lo ≤ w.heap.size) :
    Calls Try.prog 79 #[.agg #[.int .i64 v.kind, .int .i64 v.n, .string v.s], .pointer (some ⟨bA, 0, none⟩), .pointer (some ⟨bO, 0, none⟩)] w fun e w' => (∃ u, e = .returned u) ∧ MSt lo w' bA bO ga n (meetP s v) ∧ Below lo w w' := by
  obtain ⟨vk, vn, vs⟩ := v
  dsimp only at *
  obtain ⟨i1, hi0, hz0, hz1, hz2⟩ := info_parts info_IntS
  have J := Lib.hid hi0; have J0 := Lib.hid hz0; have J1 := Lib.hid hz1; have J2 := Lib.hid hz2
  clear hi0 hz0 hz1 hz2
  replace hv := Lib.hid hv
  go_enter Try.func79, Try.ntmps79
  go_upto_region 1 with fail
  have D : RowAt (w.alloc (.cells #[.int .i64 vk, .int .i64 vn, .string vs] 28)) (w.heap.size) 0 [.int .i64 vk, .int .i64 vn, .string vs] := RowAt.box w #[.int .i64 vk, .int .i64 vn, .string vs] 28
  have hw : Below w.heap.size w (w.alloc (.cells #[.int .i64 vk, .int .i64 vn, .string vs] 28)) := by go_grown
  generalize (w.alloc (.cells #[.int .i64 vk, .int .i64 vn, .string vs] 28)) = w0 at *
  have M0 := M.below hw
  have hw0 := hw.mono hlo
  have hz0 := hw.size
  have hga : ga < w.heap.size := (M.own.base ga rfl).2
  clear M
  obtain ⟨d_0, d_1, d_2⟩ := D.box3; have hsD := World.block_lt_of_cell? _ _ d_0; dsimp only at hsD
  obtain ⟨ov, RO, OO, hne⟩ := M0.boxO
  have a_0 := M0.boxA.box1
  have o_0 := RO.box1
  by_cases h6 : vk = 6
  · subst h6
    obtain ⟨k, rfl, hkn⟩ := hv.out rfl
    obtain ⟨g', cap', hg', hg1, hg2, _, _, hR, hW⟩ := own_cells M0.own.1 (show 0 < s.2.length by rw [M0.len]; omega)
    obtain rfl : ga = g' := by injection hg' with e1 e2 e3; injection e1 with e1; injection e1
    clear hg'
    have hkl : k < s.2.length := by rw [M0.len]; exact hkn
    have hx := List.getElem?_eq_getElem hkl
    obtain ⟨x, hxe⟩ : ∃ x, s.2[k] = x := ⟨_, rfl⟩
    rw [hxe] at hx
    have hR' := hR k (.int .i64 x) (by simpa using flatInt.get (j := 0) (c := .int .i64 x) hx rfl)
    rw [Nat.zero_add] at hR'
    have hWk := hW k (by omega)
    rw [Nat.zero_add] at hWk
    obtain ⟨_, _, hWf⟩ := hWk
    have hgd : s.2.getD k 0 = x := by rw [List.getD_eq_getElem?_getD, hx]; rfl
    clear hR hW
    by_cases hneg : x < 0
    · have e : meetP s ⟨6, (k : Int), vs⟩ = (s.1 ++ [(k : Int)], s.2.set k (s.1.length : Int)) := by unfold meetP; rw [if_pos ⟨rfl, by rw [Int.toNat_natCast, hgd]; exact hneg⟩, Int.toNat_natCast]
      obtain ⟨oa, oc, rfl⟩ := OO.form
      have hob := OO.base
      go_upto_region 3 with fail
      obtain ⟨w1, hW1⟩ : ∃ W, W = w0.setCell ⟨ga, k, none⟩ (.int .i64 (s.1.length : Int)) := ⟨_, rfl⟩
      rw [← hW1]
      have K1 : Kept (· = ga) w0 w1 := by rw [hW1]; exact Kept.set (S := (· = ga)) (p := ⟨ga, k, none⟩) (Kept.refl _ _) rfl _
      have hz1 : w0.heap.size ≤ w1.heap.size := by rw [hW1]; simp [World.setCell]
      have hb1 : Below lo w0 w1 := by rw [hW1]; exact (Below.refl lo w0).setCell (p := ⟨ga, k, none⟩) hg1 _
      have OA : OwnInts lo w1 (.slice (some ⟨ga, 0, none⟩) n n) (s.2.set k (s.1.length : Int)) := by
        refine ⟨?_, fun y hy => ?_⟩
        · have := own_store (v := .slice none 0 0) flatInt (k := k) (y := (s.1.length : Int)) (M0.len ▸ M0.own.1) hkl
          rw [hW1, List.length_set, M0.len]
          rw [Nat.mul_one] at this
          exact this
        · rcases List.mem_or_eq_of_mem_set hy with h | rfl
          · exact M0.own.2 y h
          · constructor <;> omega
      have hneO := hne
      have OO1 := OO.kept K1 (fun g hg => (hne g hg).1)
      have RO1 := RO.kept K1 M0.ne.2.2
      have AO1 := M0.boxA.kept K1 M0.ne.2.1
      have WO1 := M0.wrO.kept K1 M0.ne.2.2
      have D1 := D.kept K1 (by omega)
      have hlen2 : (s.2.set k (s.1.length : Int)).length = n := by rw [List.length_set]; exact M0.len
      have hnn := M0.ne; have hlob := M0.lo_
      clear hW1 K1 a_0 o_0 d_0 d_1 d_2 hR' hWf M0 OO RO D
      obtain ⟨d1_0, d1_1, d1_2⟩ := D1.box3; have hsD1 := World.block_lt_of_cell? _ _ d1_0; dsimp only at hsD1
      have a_0 := AO1.box1; have o_0 := RO1.box1
      generalize hm : s.1.length = m at *
      replace e := Lib.hid e; replace OA := Lib.hid OA; replace OO1 := Lib.hid OO1; replace hneO := Lib.hid hneO; replace hob := Lib.hid hob; replace hne := Lib.hid hne
      go_wp2_with (at_builtin; refine wpList_append_lies _ rfl _ _ _ rfl lo 3 i1 _ 1 8 Try.underlying24 J.out J0.out J1.out J2.out rfl (by omega) (.slice oa m oc) m (rowsOf intRow s.1) rfl (own_below (hm ▸ OO1.out.1) (by go_grown)) ⟨w1.heap.size, 0, none⟩ 1 1 [.int .i64 (k : Int)] rfl rfl (World.news_of_block (cs := #[.int .i64 (k : Int)]) (t := 3) (fr := (0, 0)) (heap_alloc_new' _ _ _ (by simp))) (by intro u hu; simp at hu; subst hu; rfl) (by omega) (by unfold maxLen; omega) (by omega) (by simp; omega) _ rfl ?_; intro g cap w3 hown hgrow hat hlt3; have hk3 := kept_of hgrow (w := w1) (by go_grown); have hz3 := hgrow.size; (simp only [World.size_alloc] at hz3 hat); have RO3 := RO1.kept hk3 (fun e => (hne.out _ e.symm).2.2 rfl); have WO3 := WO1.kept hk3 (fun e => (hne.out _ e.symm).2.2 rfl); have o_3 := RO3.box1; have f_3 := WO3.frz 0 (by omega))
      go_returns
      have hbOlt : bO < w1.heap.size := World.block_lt_of_cell? _ _ o_0
      have hbAlt : bA < w1.heap.size := World.block_lt_of_cell? _ _ a_0
      have hgg : g ≠ ga ∧ g ≠ bA ∧ g ≠ bO := by
        rcases hat with h | h
        · exact hne.out g h
        · refine ⟨?_, ?_, ?_⟩ <;> omega
      have K4 : Kept (· = bO) w3 (w3.setCell ⟨bO, 0, none⟩ (.slice (some ⟨g, 0, none⟩) (m + 1) cap)) := Kept.set (S := (· = bO)) (p := ⟨bO, 0, none⟩) (Kept.refl _ _) rfl _
      have hB3 : Below lo w w3 := below_grown2 (wr := w1) hgrow (by go_grown) (hw0.trans hb1) (by omega) (hm ▸ OO1.out.1)
      rw [e.out]
      refine ⟨⟨_, rfl⟩, ⟨(AO1.kept hk3 (fun e => (hne.out _ e.symm).2.1 rfl)).kept K4 hnn.1, (OA.out.kept hk3 (fun q hq e => ?_)).kept K4 (fun q hq e => ?_), hlen2, ⟨.slice (some ⟨g, 0, none⟩) (m + 1) cap, RowAt.one (cell_setCell_eq w3 bO 0 _ o_3), OwnF.kept (S := (· = bO)) ⟨?_, ?_⟩ K4 (fun q hq e => ?_), fun q hq => ?_⟩, WO3.set 0 _, hnn, hlob⟩, hB3.setCell (p := ⟨bO, 0, none⟩) hlob _⟩
      · obtain rfl : ga = q := by simpa [Value.ownBlock] using hq
        exact (hne.out _ e.symm).1 rfl
      · obtain rfl : ga = q := by simpa [Value.ownBlock] using hq
        exact hnn.2.2 e.symm
      · rw [List.length_append, hm, rowsOf_append, rowsOf_one]; exact hown
      · intro y hy
        rcases List.mem_append.1 hy with h | h
        · exact OO1.out.2 y h
        · simp at h; subst h; constructor <;> omega
      · obtain rfl : g = q := by simpa [Value.ownBlock] using hq
        exact hgg.2.2 e
      · obtain rfl : g = q := by simpa [Value.ownBlock] using hq
        exact hgg
    · have e : meetP s ⟨6, (k : Int), vs⟩ = s := by unfold meetP; rw [if_neg (by rw [Int.toNat_natCast, hgd]; exact fun ⟨_, h⟩ => hneg h)]
      have hd : decide (x < 0) = false := decide_eq_false hneg
      replace M0 := Lib.hid M0; replace e := Lib.hid e
      go_wp2_with fail
      go_returns
      rw [e.out]
      exact ⟨⟨_, rfl⟩, M0.out, hw0⟩
  · have e : meetP s ⟨vk, vn, vs⟩ = s := by unfold meetP; rw [if_neg (fun ⟨h, _⟩ => h6 h)]
    have hd : (vk == 6) = false := by simpa using h6
    replace M0 := Lib.hid M0; replace e := Lib.hid e
    go_wp2_with fail
    go_returns
    rw [e.out]
    exact ⟨⟨_, rfl⟩, M0.out, hw0⟩

end Go.Proofs.Ytajbgkpjmgmdhaa
