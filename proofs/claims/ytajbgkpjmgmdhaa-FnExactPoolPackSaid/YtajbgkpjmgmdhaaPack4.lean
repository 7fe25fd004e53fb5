/- l11Move: the reference's moving of a value. -/
import Derived.Test.YtajbgkpjmgmdhaaPack3
import Derived.Test.YtajbgkpjmgmdhaaPoolMk
namespace Go.Proofs.Ytajbgkpjmgmdhaa
open Go.RowKit
set_option linter.unusedVariables false
set_option linter.unusedSimpArgs false
attribute [local go_sem] Ext.cell

theorem RowAt.at1 {w : World} {b o : Nat} {u : Value} (h : w.cell? ⟨b, o, none⟩ = some u) : RowAt w b o [u] := fun j c hc => by
  rcases j with _ | j
  · obtain rfl : u = c := by simpa using hc
    exact h
  · simp at hc
theorem kept_set3 {w : World} {b : Nat} (x y z : Value) : Kept (· = b) w (((w.setCell ⟨b, 0, none⟩ x).setCell ⟨b, 1, none⟩ y).setCell ⟨b, 2, none⟩ z) :=
  Kept.set (S := (· = b)) (p := ⟨b, 2, none⟩) (Kept.set (S := (· = b)) (p := ⟨b, 1, none⟩) (Kept.set (S := (· = b)) (p := ⟨b, 0, none⟩) (Kept.refl _ _) rfl _) rfl _) rfl _
/-- A value in the new heap, as the reference writes it. -/
def movedS (at_ : List Int) (v : GVal) : GVal := if v.kind = 6 then ⟨6, at_.getD v.n.toNat 0, ⟨#[]⟩⟩ else v
/-- The reference's state: the order and the places (one more than ours) lie in box b. -/
structure TSt (lo : Nat) (w : World) (b ga n : Nat) (A : Nat → Prop) (s : BfsS) : Prop where
  ex : ∃ ov, RowAt w b 0 [ov, .slice (some ⟨ga, 0, none⟩) n n] ∧ OwnInts lo w ov s.1 ∧ ∀ g, ov.ownBlock = some g → g ≠ ga ∧ g ≠ b ∧ ¬ A g
  own : OwnInts lo w (.slice (some ⟨ga, 0, none⟩) n n) (s.2.map (· + 1))
  len : s.2.length = n
  wr : Wr w b 0 2
  ne : b ≠ ga
  lo_ : lo ≤ b
  na : ¬ A ga
  nb : ¬ A b
theorem TSt.below {lo : Nat} {w w' : World} {b ga n : Nat} {A : Nat → Prop} {s : BfsS} (h : TSt lo w b ga n A s) (hb : Below w.heap.size w w') : TSt lo w' b ga n A s :=
  let ⟨ov, h1, h2, h3⟩ := h.ex
  ⟨⟨ov, h1.below hb, h2.below hb, h3⟩, h.own.below hb, h.len, h.wr.below hb, h.ne, h.lo_, h.na, h.nb⟩

set_option maxRecDepth 100000 in
set_option maxHeartbeats 8000000 in
theorem l11Move_c (v : GVal) (s : BfsS) (lo bT ga n : Nat) (A : Nat → Prop) (hn : n ≤ 1048576) (hv : IsCell n v) (hle : (meetP s v).1.length ≤ n) (h64 : ∀ x ∈ s.2, -1 ≤ x ∧ x ≤ n) (w : World) (M : TSt lo w bT ga n A s) (hlo : lo ≤ w.heap.size) (hA : ∀ q, A q → q < w.heap.size) :
    Calls Try.prog 84 #[.pointer (some ⟨bT, 0, none⟩), .agg #[.int .i64 v.kind, .int .i64 v.n, .string v.s]] w fun e w' => e = .returned (.agg #[.int .i64 (movedS (meetP s v).2 v).kind, .int .i64 (movedS (meetP s v).2 v).n, .string (movedS (meetP s v).2 v).s]) ∧ TSt lo w' bT ga n A (meetP s v) ∧ Below lo w w' ∧ Kept (fun q => ¬ A q) w w' := by
  obtain ⟨vk, vn, vs⟩ := v
  dsimp only at *
  obtain ⟨i1, hi0, hz0, hz1, hz2⟩ := info_parts info_IntS
  have J := Lib.hid hi0; have J0 := Lib.hid hz0; have J1 := Lib.hid hz1; have J2 := Lib.hid hz2
  clear hi0 hz0 hz1 hz2
  replace hv := Lib.hid hv
  replace hA := Lib.hid hA
  by_cases h6 : vk = 6
  · subst h6
    obtain ⟨k, rfl, hkn⟩ := hv.out rfl
    go_enter Try.func84, Try.ntmps84
    go_upto_region 1 with fail
    have D : RowAt (w.alloc (.cells #[.int .i64 6, .int .i64 (k : Int), .string vs] 28)) (w.heap.size) 0 [.int .i64 6, .int .i64 (k : Int), .string vs] := RowAt.box w #[.int .i64 6, .int .i64 (k : Int), .string vs] 28
    have D := D.below (show Below (w.alloc (.cells #[.int .i64 6, .int .i64 (k : Int), .string vs] 28)).heap.size (w.alloc (.cells #[.int .i64 6, .int .i64 (k : Int), .string vs] 28)) ((w.alloc (.cells #[.int .i64 6, .int .i64 (k : Int), .string vs] 28)).alloc (.cells #[.int .i64 0, .int .i64 0, .string ⟨#[]⟩] 28)) by go_grown)
    have E : RowAt ((w.alloc (.cells #[.int .i64 6, .int .i64 (k : Int), .string vs] 28)).alloc (.cells #[.int .i64 0, .int .i64 0, .string ⟨#[]⟩] 28)) (w.heap.size + 1) 0 [.int .i64 0, .int .i64 0, .string ⟨#[]⟩] := by have h := RowAt.box (w.alloc (.cells #[.int .i64 6, .int .i64 (k : Int), .string vs] 28)) #[.int .i64 0, .int .i64 0, .string ⟨#[]⟩] 28; simp only [World.size_alloc] at h; exact h
    have EW : Wr ((w.alloc (.cells #[.int .i64 6, .int .i64 (k : Int), .string vs] 28)).alloc (.cells #[.int .i64 0, .int .i64 0, .string ⟨#[]⟩] 28)) (w.heap.size + 1) 0 3 := by have h := Wr.box (w.alloc (.cells #[.int .i64 6, .int .i64 (k : Int), .string vs] 28)) #[.int .i64 0, .int .i64 0, .string ⟨#[]⟩] 28; simp only [World.size_alloc] at h; exact h
    have hw : Below w.heap.size w ((w.alloc (.cells #[.int .i64 6, .int .i64 (k : Int), .string vs] 28)).alloc (.cells #[.int .i64 0, .int .i64 0, .string ⟨#[]⟩] 28)) := by go_grown
    generalize ((w.alloc (.cells #[.int .i64 6, .int .i64 (k : Int), .string vs] 28)).alloc (.cells #[.int .i64 0, .int .i64 0, .string ⟨#[]⟩] 28)) = w0 at *
    have M0 := M.below hw
    have hw0 := hw.mono hlo
    have hz0 := hw.size
    have hga : ga < w.heap.size := (M.own.base ga rfl).2
    obtain ⟨d_0, d_1, d_2⟩ := D.box3; have hsD := World.block_lt_of_cell? _ _ d_0; dsimp only at hsD
    obtain ⟨ov, RO', OO', hne⟩ := M.ex
    have hob := OO'.base
    have hbT := World.block_lt_of_cell? _ _ RO'.box2.1; dsimp only at hbT
    have RO := RO'.below hw; have OO := OO'.below hw
    clear M RO' OO'
    obtain ⟨t_0, t_1⟩ := RO.box2
    have hbT0 : bT < w0.heap.size := by omega
    have hneD : w.heap.size ≠ ga := by omega
    obtain ⟨g', cap', hg', hg1, hg2, _, _, hR, hW⟩ := own_cells M0.own.1 (show 0 < (s.2.map (· + 1)).length by rw [List.length_map, M0.len]; omega)
    obtain rfl : ga = g' := by injection hg' with e1 e2 e3; injection e1 with e1; injection e1
    clear hg'
    have hkl : k < s.2.length := by rw [M0.len]; exact hkn
    have hx := List.getElem?_eq_getElem hkl
    obtain ⟨x, hxe⟩ : ∃ x, s.2[k] = x := ⟨_, rfl⟩
    rw [hxe] at hx
    have hx64 := h64 x (List.mem_of_getElem? hx)
    have hR' := hR k (.int .i64 (x + 1)) (by simpa using flatInt.get (xs := s.2.map (· + 1)) (i := k) (x := x + 1) (j := 0) (c := .int .i64 (x + 1)) (by rw [List.getElem?_map, hx]; rfl) rfl)
    rw [Nat.zero_add] at hR'
    have hWk := hW k (by rw [List.length_map, M0.len]; omega)
    rw [Nat.zero_add] at hWk
    obtain ⟨_, _, hWf⟩ := hWk
    have hgd : s.2.getD k 0 = x := by rw [List.getD_eq_getElem?_getD, hx]; rfl
    have hwr : IntKind.i64.wrap (x + 1 - 1) = x := by rw [show x + 1 - 1 = x by omega]; exact IntWalk.i64_in _ (by omega)
    clear hR hW
    by_cases hneg : x < 0
    · obtain rfl : x = -1 := by omega
      have e : meetP s ⟨6, (k : Int), vs⟩ = (s.1 ++ [(k : Int)], s.2.set k (s.1.length : Int)) := by unfold meetP; rw [if_pos ⟨rfl, by rw [Int.toNat_natCast, hgd]; exact hneg⟩, Int.toNat_natCast]
      rw [e] at hle
      rw [show (-1 + 1 : Int) = 0 from rfl] at hR'
      simp only [List.length_append, List.length_singleton] at hle
      obtain ⟨oa, oc, rfl⟩ := OO.form
      have hneO := hne
      replace M0 := Lib.hid M0; replace e := Lib.hid e; replace OO := Lib.hid OO; replace hne := Lib.hid hne; replace hob := Lib.hid hob
      go_upto_region 3 with fail
      go_region_held3 (fun w' => w'.cell? ⟨bT, 0, none⟩ = some (.slice oa s.1.length oc) ∧ w'.cell? ⟨bT, 1, none⟩ = some (.slice (some ⟨ga, 0, none⟩) n n) ∧ w'.cell? ⟨w.heap.size, 1, none⟩ = some (.int .i64 (k : Int)) ∧ w'.cell? ⟨ga, k, none⟩ = some (.int .i64 0))
        (first | exact ⟨t_0, t_1, d_1, hR'⟩ | go_keep) (fail)
      go_upto_region 4 with fail
      have tf_0 := M0.out.wr.frz 0 (by omega)
      generalize hm : s.1.length = m at *
      have hown0 : w0.ownsRow lo 3 1 (.slice oa m oc) m (rowsOf intRow s.1) := hm ▸ OO.out.1
      replace hown0 := Lib.hid hown0; replace hm := Lib.hid hm
      have t_0' : w0.drew.drew.cell? ⟨bT, 0, none⟩ = some (.slice oa m oc) := t_0
      have t_1' : w0.drew.drew.cell? ⟨bT, 1, none⟩ = some (.slice (some ⟨ga, 0, none⟩) n n) := t_1
      have d_1' : w0.drew.drew.cell? ⟨w.heap.size, 1, none⟩ = some (.int .i64 (k : Int)) := d_1
      go_region_law
          (refine step_append_lies _ (by rfl) _ _ _ (by rfl) lo 3 i1 _ 1 8 Try.underlying24 J.out J0.out J1.out J2.out rfl (by omega) _ m (rowsOf intRow s.1) (by rfl) (own_below hown0.out (by go_grown)) ⟨w0.heap.size, 0, none⟩ 1 1 [.int .i64 (k : Int)] (by rfl) (by rfl) (World.news_of_block (cs := #[.int .i64 (k : Int)]) (t := 3) (fr := (0, 0)) (heap_alloc_new' _ _ _ (by simp))) (by intro u hu; simp at hu; subst hu; rfl) (by omega) (by unfold maxLen; omega) (by omega) (by simp; omega) (w0.heap.size + 1) (by simp) ?_; intro g cap w2 hown hgrow hat hlt2; have hk3 := kept_of hgrow (w := w0) (by go_grown); have RO2 := RO.kept hk3 (fun e => (hne.out _ e.symm).2.1 rfl); have WT2 := M0.out.wr.kept hk3 (fun e => (hne.out _ e.symm).2.1 rfl); obtain ⟨c_0, c_1⟩ := RO2.box2; have cf_0 := WT2.frz 0 (by omega))
      all_goals
        obtain ⟨w3, hW3⟩ : ∃ W, W = w2.setCell ⟨bT, 0, none⟩ (.slice (some ⟨g, 0, none⟩) (m + 1) cap) := ⟨_, rfl⟩
        rw [← hW3]
        have hB0 : Below w0.heap.size w0 (w0.alloc (.cells #[.int .i64 (k : Int)] 3)) := by go_grown
        have hlob := M0.out.lo_
        have hnea := M0.out.ne
        have hloz : lo ≤ w0.heap.size := by omega
        have hB2 : Below lo w0 w2 := below_grown2 (wr := w0) hgrow (by go_grown) (Below.refl lo w0) hloz hown0.out
        have hz2 : w0.heap.size + 1 ≤ w2.heap.size := by have := hgrow.size; simpa using this
        have hgg : g ≠ ga ∧ g ≠ bT ∧ ¬ A g := by
          rcases hat with h' | h'
          · exact hne.out g h'
          · exact ⟨by omega, by omega, fun hh => by have := hA.out g hh; omega⟩
        have hgE : g ≠ w.heap.size + 1 := by
          rcases hat with h' | h'
          · have := hob.out g h'; omega
          · omega
        have hs23 : w3.heap.size = w2.heap.size := by rw [hW3]; simp [World.setCell]
        have K3 : Kept (· = bT) w2 w3 := by rw [hW3]; exact Kept.set (S := (· = bT)) (p := ⟨bT, 0, none⟩) (Kept.refl _ _) rfl _
        have nD : ∀ b, w.heap.size ≤ b → ¬ (some b = (Value.slice oa m oc).ownBlock) := fun b hb e => by
          have h1 := hob.out b e.symm; omega
        have D3 := (D.kept hk3 (nD _ (Nat.le_refl _))).kept K3 (by omega)
        have E3 := (E.kept hk3 (nD _ (by omega))).kept K3 (by omega)
        have EW3 := (EW.kept hk3 (nD _ (by omega))).kept K3 (by omega)
        have T3 : RowAt w3 bT 0 [.slice (some ⟨g, 0, none⟩) (m + 1) cap, .slice (some ⟨ga, 0, none⟩) n n] := by
          rw [hW3]; exact RowAt.of2 (cell_setCell_eq _ _ 0 _ c_0) ((cell_setCell_ne _ _ 0 1 _ (by omega)).trans c_1)
        have WT3 : Wr w3 bT 0 2 := by rw [hW3]; exact WT2.set 0 _
        have hB3 : Below lo w0 w3 := by rw [hW3]; exact hB2.setCell (p := ⟨bT, 0, none⟩) hlob _
        have OG3 : OwnInts lo w3 (.slice (some ⟨g, 0, none⟩) (m + 1) cap) (s.1 ++ [(k : Int)]) := by
          refine OwnF.kept (S := (· = bT)) ⟨?_, fun y hy => ?_⟩ K3 (fun q hq e => ?_)
          · rw [List.length_append, hm.out, rowsOf_append, rowsOf_one]; exact hown
          · rcases List.mem_append.1 hy with h' | h'
            · exact OO.out.2 y h'
            · simp at h'; subst h'; constructor <;> omega
          · obtain rfl : g = q := by simpa [Value.ownBlock] using hq
            exact hgg.2.1 e
        have OP3 : OwnInts lo w3 (.slice (some ⟨ga, 0, none⟩) n n) (s.2.map (· + 1)) := (M0.out.own.kept hk3 (fun q hq e => by
          obtain rfl : ga = q := by simpa [Value.ownBlock] using hq
          exact (hne.out _ e.symm).1 rfl)).kept K3 (fun q hq e => by
          obtain rfl : ga = q := by simpa [Value.ownBlock] using hq
          exact hnea e.symm)
        obtain ⟨g', cap3, hg', -, hg3, _, _, hR3, hW3'⟩ := own_cells OP3.1 (show 0 < (s.2.map (· + 1)).length by rw [List.length_map]; omega)
        obtain rfl : ga = g' := by injection hg' with e1 e2 e3; injection e1 with e1; injection e1
        have r3 := hR3 k (.int .i64 0) (by simpa using flatInt.get (xs := s.2.map (· + 1)) (i := k) (x := 0) (j := 0) (c := .int .i64 0) (by rw [List.getElem?_map, hx]; rfl) rfl)
        rw [Nat.zero_add] at r3
        have hWk := hW3' k (by rw [List.length_map]; omega)
        rw [Nat.zero_add] at hWk
        obtain ⟨_, _, rf3⟩ := hWk
        replace OG3 := Lib.hid OG3; replace OP3 := Lib.hid OP3
        clear hR3 hW3' hg' hW3 c_0 c_1 cf_0 RO2 WT2 hat hown t_0 t_1 t_0' t_1' d_0 d_1 d_2 d_1' hR' hWf OO hown0 RO
        obtain ⟨d_0, d_1, d_2⟩ := D3.box3
        obtain ⟨t_0, t_1⟩ := T3.box2
        go_upto_region 5 with fail
        go_region_held3 (fun w' => w'.cell? ⟨bT, 0, none⟩ = some (.slice (some ⟨g, 0, none⟩) (m + 1) cap) ∧ w'.cell? ⟨bT, 1, none⟩ = some (.slice (some ⟨ga, 0, none⟩) n n) ∧ w'.cell? ⟨w.heap.size, 1, none⟩ = some (.int .i64 (k : Int)))
          (first | exact ⟨t_0, t_1, d_1⟩ | exact ⟨(T3.set_other hnea _).box2.1, (T3.set_other hnea _).box2.2, (D3.set_other hneD _).box3.2.1⟩ | go_keep) (fail)
        obtain ⟨w4, hW4⟩ : ∃ W, W = w3.setCell ⟨ga, k, none⟩ (.int .i64 ((m : Int) + 1)) := ⟨_, rfl⟩
        rw [← hW4]
        have K4 : Kept (· = ga) w3 w4 := by rw [hW4]; exact Kept.set (S := (· = ga)) (p := ⟨ga, k, none⟩) (Kept.refl _ _) rfl _
        have T4 := T3.kept K4 hnea; have D4 := D3.kept K4 hneD; have E4 := E3.kept K4 (by omega); have EW4 := EW3.kept K4 (by omega)
        have WT4 := WT3.kept K4 hnea
        have hB4 : Below lo w0 w4 := by rw [hW4]; exact hB3.setCell (p := ⟨ga, k, none⟩) hg1 _
        have OG4 := OG3.out.kept K4 (fun q hq e => by
          obtain rfl : g = q := by simpa [Value.ownBlock] using hq
          exact hgg.1 e)
        have r4 : w4.cell? ⟨ga, k, none⟩ = some (.int .i64 ((m : Int) + 1)) := by rw [hW4]; exact cell_setCell_eq _ _ _ _ r3
        have hset : (s.2.set k (m : Int)).map (· + 1) = (s.2.map (· + 1)).set k ((m : Int) + 1) := by rw [List.map_set]
        have OP4 : OwnInts lo w4 (.slice (some ⟨ga, 0, none⟩) n n) ((s.2.set k (m : Int)).map (· + 1)) := by
          rw [hset]
          refine ⟨?_, fun y hy => ?_⟩
          · have h1 := OP3.out.1
            rw [List.length_map, M0.out.len] at h1
            have := own_store (v := .slice none 0 0) flatInt (k := k) (y := (m : Int) + 1) h1 (by rw [List.length_map]; exact hkl)
            rw [hW4, List.length_set, List.length_map, M0.out.len]
            rw [Nat.mul_one] at this
            exact this
          · rcases List.mem_or_eq_of_mem_set hy with h | rfl
            · exact OP3.out.2 y h
            · constructor <;> omega
        have hlen4 : (s.2.set k (m : Int)).length = n := by rw [List.length_set]; exact M0.out.len
        have hwr4 : IntKind.i64.wrap (m : Int) = (m : Int) := IntWalk.i64_in _ (by omega)
        have hmv : movedS (s.2.set k (m : Int)) ⟨6, (k : Int), vs⟩ = ⟨6, (m : Int), ⟨#[]⟩⟩ := by unfold movedS; rw [if_pos rfl, Int.toNat_natCast, List.getD_eq_getElem?_getD, List.getElem?_set_self hkl]; rfl
        have hTE : bT ≠ w.heap.size + 1 := by omega
        have hDE : w.heap.size ≠ w.heap.size + 1 := by omega
        have hAE : ga ≠ w.heap.size + 1 := by omega
        have hfin : ∀ W, Kept (· = w.heap.size + 1) w4 W → TSt lo W bT ga n A (s.1 ++ [(k : Int)], s.2.set k (m : Int)) := fun W K => ⟨⟨_, T4.kept K hTE, OG4.kept K (fun q hq e => by
          obtain rfl : g = q := by simpa [Value.ownBlock] using hq
          exact hgE e), fun q hq => by
          obtain rfl : g = q := by simpa [Value.ownBlock] using hq
          exact hgg⟩, OP4.kept K (fun q hq e => by
          obtain rfl : ga = q := by simpa [Value.ownBlock] using hq
          exact hAE e), hlen4, WT4.kept K hTE, hnea, hlob, M0.out.na, M0.out.nb⟩
        have hKA : Kept (fun q => ¬ A q) w w4 := (Kept.below hw).trans hz0 ((hk3.mono (fun q hq => (hne.out q hq.symm).2.2)).trans (by have := hgrow.size; simp at this; omega) ((K3.mono (fun q hq => by rw [hq]; exact M0.out.nb)).trans (by omega) (K4.mono (fun q hq => by rw [hq]; exact M0.out.na))))
        have hsz4 : w.heap.size ≤ w4.heap.size := by have : w4.heap.size = w3.heap.size := by rw [hW4]; simp [World.setCell]
                                                     omega
        have hAn : ∀ q, q = w.heap.size + 1 → ¬ A q := fun q hq hh => by have := hA.out q hh; omega
        replace hKA := Lib.hid hKA; replace hAn := Lib.hid hAn
        replace hfin := Lib.hid hfin; replace hmv := Lib.hid hmv
        have P4 : RowAt w4 ga k [.int .i64 ((m : Int) + 1)] := RowAt.at1 r4
        clear hW4 K4 K3 hk3 hgrow OP4 OG4 hset T3 D3 E3 EW3 t_0 t_1 d_0 d_1 d_2 r3 rf3 OG3 OP3 hlen4 WT3 WT4
        obtain ⟨d_0, d_1, d_2⟩ := D4.box3
        obtain ⟨t_0, t_1⟩ := T4.box2
        obtain ⟨e_0, e_1, e_2⟩ := E4.box3
        have ef_0 := EW4.frz 0 (by omega); have ef_1 := EW4.frz 1 (by omega); have ef_2 := EW4.frz 2 (by omega)
        go_upto_region 6 with fail
        go_region_held3 (fun w' => w'.cell? ⟨bT, 1, none⟩ = some (.slice (some ⟨ga, 0, none⟩) n n) ∧ w'.cell? ⟨w.heap.size, 1, none⟩ = some (.int .i64 (k : Int)) ∧ w'.cell? ⟨ga, k, none⟩ = some (.int .i64 ((m : Int) + 1)))
          (first | exact ⟨t_1, d_1, r4⟩ | exact ⟨(((T4.set_other hTE _).set_other hTE _).set_other hTE _).box2.2, (((D4.set_other hDE _).set_other hDE _).set_other hDE _).box3.2.1, (((P4.set_other hAE _).set_other hAE _).set_other hAE _).cells1⟩ | go_keep) (fail)
        all_goals go_wp2_with fail
        all_goals
          have q := stored3 (x := .int .i64 6) (y := .int .i64 (m : Int)) (z := .string ⟨#[]⟩) e_0 e_1 e_2
          refine bodyPost_ret (v := .agg #[.int .i64 6, .int .i64 (m : Int), .string ⟨#[]⟩]) (by simp [results, Try.results84, go_sem, q.1, q.2.1, q.2.2]) rfl ?_
          rw [e.out]
          dsimp only
          rw [hmv.out]
          exact ⟨rfl, hfin.out _ (kept_set3 _ _ _), (below_set3 (hw0.trans hB4) (show lo ≤ w.heap.size + 1 by omega) _ _ _).drew.drew, hKA.out.trans hsz4 ((kept_set3 _ _ _).mono hAn.out)⟩
    · have e : meetP s ⟨6, (k : Int), vs⟩ = s := by unfold meetP; rw [if_neg (by rw [Int.toNat_natCast, hgd]; exact fun ⟨_, h⟩ => hneg h)]
      have hmv : movedS s.2 ⟨6, (k : Int), vs⟩ = ⟨6, x, ⟨#[]⟩⟩ := by unfold movedS; rw [if_pos rfl, Int.toNat_natCast, hgd]
      have hd : ((x + 1 : Int) == 0) = false := by simp; omega
      have hd2 : decide ((x + 1 : Int) = 0) = false := decide_eq_false (by omega)
      have hwr4 : IntKind.i64.wrap x = x := IntWalk.i64_in _ (by omega)
      have hloz : lo ≤ w0.heap.size := by omega
      obtain ⟨oa, oc, rfl⟩ := OO.form
      have P0 : RowAt w0 ga k [.int .i64 (x + 1)] := RowAt.at1 hR'
      have hTE : bT ≠ w.heap.size + 1 := by omega
      have hDE : w.heap.size ≠ w.heap.size + 1 := by omega
      have hAE : ga ≠ w.heap.size + 1 := by omega
      have hfin : ∀ W, Kept (· = w.heap.size + 1) w0 W → TSt lo W bT ga n A s := fun W K => ⟨⟨_, RO.kept K hTE, OO.kept K (fun q hq e => by have := hob q hq; omega), hne⟩, M0.own.kept K (fun q hq e => by
          obtain rfl : ga = q := by simpa [Value.ownBlock] using hq
          exact hAE e), M0.len, M0.wr.kept K hTE, M0.ne, M0.lo_, M0.na, M0.nb⟩
      have hAn : ∀ q, q = w.heap.size + 1 → ¬ A q := fun q hq hh => by have := hA.out q hh; omega
      replace hAn := Lib.hid hAn
      replace hfin := Lib.hid hfin; replace hmv := Lib.hid hmv; replace e := Lib.hid e; replace M0 := Lib.hid M0; replace OO := Lib.hid OO; replace hne := Lib.hid hne; replace hob := Lib.hid hob
      have ef_0 := EW.frz 0 (by omega); have ef_1 := EW.frz 1 (by omega); have ef_2 := EW.frz 2 (by omega); obtain ⟨e_0, e_1, e_2⟩ := E.box3; have hsE := World.block_lt_of_cell? _ _ e_0; dsimp only at hsE
      go_upto_region 3 with fail
      go_region_held3 (fun w' => w'.cell? ⟨bT, 1, none⟩ = some (.slice (some ⟨ga, 0, none⟩) n n) ∧ w'.cell? ⟨w.heap.size, 1, none⟩ = some (.int .i64 (k : Int)) ∧ w'.cell? ⟨ga, k, none⟩ = some (.int .i64 (x + 1)))
        (first | exact ⟨t_1, d_1, hR'⟩ | go_keep) (fail)
      go_upto_region 6 with fail
      go_region_held3 (fun w' => w'.cell? ⟨bT, 1, none⟩ = some (.slice (some ⟨ga, 0, none⟩) n n) ∧ w'.cell? ⟨w.heap.size, 1, none⟩ = some (.int .i64 (k : Int)) ∧ w'.cell? ⟨ga, k, none⟩ = some (.int .i64 (x + 1)))
        (first | exact ⟨t_1, d_1, hR'⟩ | exact ⟨(((RO.set_other hTE _).set_other hTE _).set_other hTE _).box2.2, (((D.set_other hDE _).set_other hDE _).set_other hDE _).box3.2.1, (((P0.set_other hAE _).set_other hAE _).set_other hAE _).cells1⟩ | go_keep) (fail)
      all_goals go_wp2_with fail
      all_goals
        have q := stored3 (x := .int .i64 6) (y := .int .i64 x) (z := .string ⟨#[]⟩) e_0 e_1 e_2
        refine bodyPost_ret (v := .agg #[.int .i64 6, .int .i64 x, .string ⟨#[]⟩]) (by simp [results, Try.results84, go_sem, q.1, q.2.1, q.2.2]) rfl ?_
        rw [e.out]
        rw [hmv.out]
        exact ⟨rfl, hfin.out _ (kept_set3 _ _ _), (below_set3 hw0 (show lo ≤ w.heap.size + 1 by omega) _ _ _).drew.drew, (Kept.below hw).trans hz0 ((kept_set3 _ _ _).mono hAn.out)⟩
  · have e : meetP s ⟨vk, vn, vs⟩ = s := by unfold meetP; rw [if_neg (fun ⟨h, _⟩ => h6 h)]
    have hmv : movedS s.2 ⟨vk, vn, vs⟩ = ⟨vk, vn, vs⟩ := by unfold movedS; rw [if_neg h6]
    have hd : (vk == 6) = false := by simpa using h6
    have hd2 : (vk != 6) = true := by simpa using h6
    go_enter Try.func84, Try.ntmps84
    go_upto_region 1 with fail
    have D : RowAt (w.alloc (.cells #[.int .i64 vk, .int .i64 vn, .string vs] 28)) (w.heap.size) 0 [.int .i64 vk, .int .i64 vn, .string vs] := RowAt.box w #[.int .i64 vk, .int .i64 vn, .string vs] 28
    have D := D.below (show Below (w.alloc (.cells #[.int .i64 vk, .int .i64 vn, .string vs] 28)).heap.size (w.alloc (.cells #[.int .i64 vk, .int .i64 vn, .string vs] 28)) ((w.alloc (.cells #[.int .i64 vk, .int .i64 vn, .string vs] 28)).alloc (.cells #[.int .i64 0, .int .i64 0, .string ⟨#[]⟩] 28)) by go_grown)
    have E : RowAt ((w.alloc (.cells #[.int .i64 vk, .int .i64 vn, .string vs] 28)).alloc (.cells #[.int .i64 0, .int .i64 0, .string ⟨#[]⟩] 28)) (w.heap.size + 1) 0 [.int .i64 0, .int .i64 0, .string ⟨#[]⟩] := by have h := RowAt.box (w.alloc (.cells #[.int .i64 vk, .int .i64 vn, .string vs] 28)) #[.int .i64 0, .int .i64 0, .string ⟨#[]⟩] 28; simp only [World.size_alloc] at h; exact h
    have EW : Wr ((w.alloc (.cells #[.int .i64 vk, .int .i64 vn, .string vs] 28)).alloc (.cells #[.int .i64 0, .int .i64 0, .string ⟨#[]⟩] 28)) (w.heap.size + 1) 0 3 := by have h := Wr.box (w.alloc (.cells #[.int .i64 vk, .int .i64 vn, .string vs] 28)) #[.int .i64 0, .int .i64 0, .string ⟨#[]⟩] 28; simp only [World.size_alloc] at h; exact h
    have hw : Below w.heap.size w ((w.alloc (.cells #[.int .i64 vk, .int .i64 vn, .string vs] 28)).alloc (.cells #[.int .i64 0, .int .i64 0, .string ⟨#[]⟩] 28)) := by go_grown
    generalize ((w.alloc (.cells #[.int .i64 vk, .int .i64 vn, .string vs] 28)).alloc (.cells #[.int .i64 0, .int .i64 0, .string ⟨#[]⟩] 28)) = w0 at *
    have M0 := M.below hw
    have hw0 := hw.mono hlo
    obtain ⟨ov, RO', OO', hne⟩ := M.ex
    have hob := OO'.base
    have hbT := World.block_lt_of_cell? _ _ RO'.box2.1; dsimp only at hbT
    have hga : ga < w.heap.size := (M.own.base ga rfl).2
    have RO := RO'.below hw; have OO := OO'.below hw
    have hfin : ∀ W, Kept (· = w.heap.size + 1) w0 W → TSt lo W bT ga n A s := fun W K => ⟨⟨_, RO.kept K (by omega), OO.kept K (fun q hq e => by have := hob q hq; omega), hne⟩, M0.own.kept K (fun q hq e => by
          obtain rfl : ga = q := by simpa [Value.ownBlock] using hq
          omega), M0.len, M0.wr.kept K (by omega), M0.ne, M0.lo_, M0.na, M0.nb⟩
    have hAn : ∀ q, q = w.heap.size + 1 → ¬ A q := fun q hq hh => by have := hA.out q hh; omega
    have hz0 := hw.size
    replace hAn := Lib.hid hAn
    clear M RO' OO' RO OO M0 hne hob
    replace hfin := Lib.hid hfin; replace hmv := Lib.hid hmv; replace e := Lib.hid e
    obtain ⟨d_0, d_1, d_2⟩ := D.box3; have hsD := World.block_lt_of_cell? _ _ d_0; dsimp only at hsD; have ef_0 := EW.frz 0 (by omega); have ef_1 := EW.frz 1 (by omega); have ef_2 := EW.frz 2 (by omega); obtain ⟨e_0, e_1, e_2⟩ := E.box3; have hsE := World.block_lt_of_cell? _ _ e_0; dsimp only at hsE
    go_wp2_with fail
    have q := stored3 (x := .int .i64 vk) (y := .int .i64 vn) (z := .string vs) e_0 e_1 e_2
    refine bodyPost_ret (v := .agg #[.int .i64 vk, .int .i64 vn, .string vs]) (by simp [results, Try.results84, go_sem, q.1, q.2.1, q.2.2]) rfl ?_
    rw [e.out]
    rw [hmv.out]
    exact ⟨rfl, hfin.out _ (kept_set3 _ _ _), below_set3 hw0 (by omega) _ _ _, (Kept.below hw).trans hz0 ((kept_set3 _ _ _).mono hAn.out)⟩

end Go.Proofs.Ytajbgkpjmgmdhaa
