/- Which of two values comes first: plain law; the reference's DataLess and the program's. -/
import Derived.Test.YtpblhonnknmjjaaDataOk2
import Derived.Deep.RegionHeld3
namespace Go.Proofs.Ytpblhonnknmjjaa
open Go.RowKit
set_option linter.unusedVariables false
set_option linter.unusedSimpArgs false
attribute [local go_sem] Ext.cell

def nodeCmp (x y : GDNode) : Option Bool :=
  if (x.kind != y.kind) = true then some (decide (x.kind < y.kind))
  else if (x.n != y.n) = true then some (decide (x.n < y.n))
  else if (!(x.s.toList == y.s.toList)) = true then some (Op.bytesLess x.s.toList y.s.toList)
  else if ((x.kids.length : Int) != (y.kids.length : Int)) = true then some (decide ((x.kids.length : Int) < (y.kids.length : Int)))
  else none
theorem nodeCmp_ways (x y : GDNode) :
    ((x.kind != y.kind) = true ∧ nodeCmp x y = some (decide (x.kind < y.kind))) ∨
    ((x.kind != y.kind) = false ∧ (x.n != y.n) = true ∧ nodeCmp x y = some (decide (x.n < y.n))) ∨
    ((x.kind != y.kind) = false ∧ (x.n != y.n) = false ∧ (x.s.toList == y.s.toList) = false ∧ nodeCmp x y = some (Op.bytesLess x.s.toList y.s.toList)) ∨
    ((x.kind != y.kind) = false ∧ (x.n != y.n) = false ∧ (x.s.toList == y.s.toList) = true ∧ ((x.kids.length : Int) != (y.kids.length : Int)) = true ∧ nodeCmp x y = some (decide ((x.kids.length : Int) < (y.kids.length : Int)))) ∨
    ((x.kind != y.kind) = false ∧ (x.n != y.n) = false ∧ (x.s.toList == y.s.toList) = true ∧ ((x.kids.length : Int) != (y.kids.length : Int)) = false ∧ nodeCmp x y = none) := by
  unfold nodeCmp
  cases h1 : (x.kind != y.kind)
  · cases h2 : (x.n != y.n)
    · cases h3 : (x.s.toList == y.s.toList)
      · exact .inr (.inr (.inl ⟨rfl, rfl, rfl, by simp⟩))
      · cases h4 : ((x.kids.length : Int) != (y.kids.length : Int))
        · exact .inr (.inr (.inr (.inr ⟨rfl, rfl, rfl, rfl, by simp⟩)))
        · exact .inr (.inr (.inr (.inl ⟨rfl, rfl, rfl, rfl, by simp⟩)))
    · exact .inr (.inl ⟨rfl, rfl, by simp⟩)
  · exact .inl ⟨rfl, by simp⟩
def lessL : List GDNode → List GDNode → Bool
  | x :: xs, y :: ys => match nodeCmp x y with
    | some b => b
    | none => lessL xs ys
  | _, _ => false
theorem lessL_drop {a b : List GDNode} {k : Nat} {x y : GDNode} (hx : a[k]? = some x) (hy : b[k]? = some y) : lessL (a.drop k) (b.drop k) = match nodeCmp x y with
    | some b => b
    | none => lessL (a.drop (k + 1)) (b.drop (k + 1)) := by
  obtain ⟨h1, e1⟩ := List.getElem?_eq_some_iff.1 hx
  obtain ⟨h2, e2⟩ := List.getElem?_eq_some_iff.1 hy
  rw [List.drop_eq_getElem_cons h1, List.drop_eq_getElem_cons h2, e1, e2]
  rfl
theorem lessL_out {a b : List GDNode} {k : Nat} (h : a.length ≤ k ∨ b.length ≤ k) : lessL (a.drop k) (b.drop k) = false := by
  rcases h with h | h
  · rw [List.drop_of_length_le h]; unfold lessL; rfl
  · rw [List.drop_of_length_le h]; unfold lessL; cases a.drop k <;> rfl
def dataLess (a b : GData) : Bool := dataOk a && (dataOk b && lessL a.nodes b.nodes)

set_option maxRecDepth 100000 in
set_option maxHeartbeats 8000000 in
theorem spec_DataLess_c (a : GData) (ra : List Value) (la : Nat) (b : GData) (rb : List Value) (lb : Nat) (hba : a.bulk ≤ 1048576) (hbb : b.bulk ≤ 1048576) (w : World) (hra : GData.R la w ra a) (hrb : GData.R lb w rb b) :
    Calls Try.prog 8 #[.agg ra.toArray, .agg rb.toArray] w fun e w' => e = .returned (.bool (dataLess a b)) ∧ Below w.heap.size w w' := by
  have hda : a.nodes.length ≤ 1152921504606846976 := by have := length_le_bulkS GDNode.bulk_nonneg a.nodes; unfold GData.bulk at hba; omega
  have hdb : b.nodes.length ≤ 1152921504606846976 := by have := length_le_bulkS GDNode.bulk_nonneg b.nodes; unfold GData.bulk at hbb; omega
  have c1 := fun W (hW : Below w.heap.size w W) => specDataOk_c a hda ra la W (GData.good.below hra hW)
  have c2 := fun W (hW : Below w.heap.size w W) => specDataOk_c b hdb rb lb W (GData.good.below hrb hW)
  obtain ⟨u, rfl, -, hu⟩ := hra
  obtain ⟨aa, ac, rfl, al, am, a0⟩ := hu
  obtain ⟨u, rfl, -, hu⟩ := hrb
  obtain ⟨ba, bc, rfl, bl, bm, b0⟩ := hu
  obtain ⟨n, hn⟩ : ∃ n, n = a.nodes.length := ⟨_, rfl⟩
  obtain ⟨m, hm⟩ : ∃ m, m = b.nodes.length := ⟨_, rfl⟩
  rw [← hn] at al hda c1 ⊢
  rw [← hm] at bl hdb c2 ⊢
  replace hn := Lib.hid hn; replace hm := Lib.hid hm
  replace a0 := Lib.hid a0; replace b0 := Lib.hid b0; replace c1 := Lib.hid c1; replace c2 := Lib.hid c2
  clear hba hbb
  cases hoa : dataOk a with
  | false =>
    rw [hoa] at c1
    have hfin : Hid (dataLess a b = false) := by show _ = _; unfold dataLess; rw [hoa]; rfl
    clear hoa
    go_enter Try.func8, Try.ntmps8
    go_upto_region 1 with fail
    have A : RowAt (w.alloc (.cells #[.slice aa n ac] 25)) (w.heap.size) 0 [.slice aa n ac] := RowAt.box w #[.slice aa n ac] 25
    have A := A.below (show Below (w.alloc (.cells #[.slice aa n ac] 25)).heap.size (w.alloc (.cells #[.slice aa n ac] 25)) ((w.alloc (.cells #[.slice aa n ac] 25)).alloc (.cells #[.slice ba m bc] 25)) by go_grown)
    have B : RowAt ((w.alloc (.cells #[.slice aa n ac] 25)).alloc (.cells #[.slice ba m bc] 25)) (w.heap.size + 1) 0 [.slice ba m bc] := by have h := RowAt.box (w.alloc (.cells #[.slice aa n ac] 25)) #[.slice ba m bc] 25; simp only [World.size_alloc] at h; exact h
    have hw : Below w.heap.size w ((w.alloc (.cells #[.slice aa n ac] 25)).alloc (.cells #[.slice ba m bc] 25)) := by go_grown
    generalize ((w.alloc (.cells #[.slice aa n ac] 25)).alloc (.cells #[.slice ba m bc] 25)) = w0 at *
    have a_0 := A.box1; have hsA := World.block_lt_of_cell? _ _ a_0; dsimp only at hsA; have b_0 := B.box1; have hsB := World.block_lt_of_cell? _ _ b_0; dsimp only at hsB
    go_wp2_with (go_at_call 9; ((with_reducible refine (c1.out _ hw).mono ?_); rintro e w1 ⟨rfl, hb⟩; have hw := hw.trans (hb.mono hw.size); have A := A.below hb; have a_0 := A.box1; have hsA := World.block_lt_of_cell? _ _ a_0; dsimp only at hsA; have B := B.below hb; have b_0 := B.box1; have hsB := World.block_lt_of_cell? _ _ b_0; dsimp only at hsB; clear hb))
    go_returns
    exact ⟨by rw [hfin.out]; rfl, hw⟩
  | true =>
    rw [hoa] at c1
    cases hob : dataOk b with
    | false =>
      rw [hob] at c2
      have hfin : Hid (dataLess a b = false) := by show _ = _; unfold dataLess; rw [hoa, hob]; rfl
      clear hoa hob
      go_enter Try.func8, Try.ntmps8
      go_upto_region 1 with fail
      have A : RowAt (w.alloc (.cells #[.slice aa n ac] 25)) (w.heap.size) 0 [.slice aa n ac] := RowAt.box w #[.slice aa n ac] 25
      have A := A.below (show Below (w.alloc (.cells #[.slice aa n ac] 25)).heap.size (w.alloc (.cells #[.slice aa n ac] 25)) ((w.alloc (.cells #[.slice aa n ac] 25)).alloc (.cells #[.slice ba m bc] 25)) by go_grown)
      have B : RowAt ((w.alloc (.cells #[.slice aa n ac] 25)).alloc (.cells #[.slice ba m bc] 25)) (w.heap.size + 1) 0 [.slice ba m bc] := by have h := RowAt.box (w.alloc (.cells #[.slice aa n ac] 25)) #[.slice ba m bc] 25; simp only [World.size_alloc] at h; exact h
      have hw : Below w.heap.size w ((w.alloc (.cells #[.slice aa n ac] 25)).alloc (.cells #[.slice ba m bc] 25)) := by go_grown
      generalize ((w.alloc (.cells #[.slice aa n ac] 25)).alloc (.cells #[.slice ba m bc] 25)) = w0 at *
      have a_0 := A.box1; have hsA := World.block_lt_of_cell? _ _ a_0; dsimp only at hsA; have b_0 := B.box1; have hsB := World.block_lt_of_cell? _ _ b_0; dsimp only at hsB
      go_wp2_with (first | (go_at_call 9; ((with_reducible refine (c1.out _ hw).mono ?_); rintro e w1 ⟨rfl, hb⟩; have hw := hw.trans (hb.mono hw.size); have A := A.below hb; have a_0 := A.box1; have hsA := World.block_lt_of_cell? _ _ a_0; dsimp only at hsA; have B := B.below hb; have b_0 := B.box1; have hsB := World.block_lt_of_cell? _ _ b_0; dsimp only at hsB; clear hb)) | (go_at_call 9; ((with_reducible refine (c2.out _ hw).mono ?_); rintro e w1 ⟨rfl, hb⟩; have hw := hw.trans (hb.mono hw.size); have A := A.below hb; have a_0 := A.box1; have hsA := World.block_lt_of_cell? _ _ a_0; dsimp only at hsA; have B := B.below hb; have b_0 := B.box1; have hsB := World.block_lt_of_cell? _ _ b_0; dsimp only at hsB; clear hb)))
      go_returns
      exact ⟨by rw [hfin.out]; rfl, hw⟩
    | true =>
      rw [hob] at c2
      have hfin : Hid (dataLess a b = lessL a.nodes b.nodes) := by show _ = _; unfold dataLess; rw [hoa, hob]; rfl
      clear hoa hob
      go_enter Try.func8, Try.ntmps8
      go_upto_region 1 with fail
      have A : RowAt (w.alloc (.cells #[.slice aa n ac] 25)) (w.heap.size) 0 [.slice aa n ac] := RowAt.box w #[.slice aa n ac] 25
      have A := A.below (show Below (w.alloc (.cells #[.slice aa n ac] 25)).heap.size (w.alloc (.cells #[.slice aa n ac] 25)) ((w.alloc (.cells #[.slice aa n ac] 25)).alloc (.cells #[.slice ba m bc] 25)) by go_grown)
      have B : RowAt ((w.alloc (.cells #[.slice aa n ac] 25)).alloc (.cells #[.slice ba m bc] 25)) (w.heap.size + 1) 0 [.slice ba m bc] := by have h := RowAt.box (w.alloc (.cells #[.slice aa n ac] 25)) #[.slice ba m bc] 25; simp only [World.size_alloc] at h; exact h
      have hw : Below w.heap.size w ((w.alloc (.cells #[.slice aa n ac] 25)).alloc (.cells #[.slice ba m bc] 25)) := by go_grown
      generalize ((w.alloc (.cells #[.slice aa n ac] 25)).alloc (.cells #[.slice ba m bc] 25)) = w0 at *
      have a_0 := A.box1; have hsA := World.block_lt_of_cell? _ _ a_0; dsimp only at hsA; have b_0 := B.box1; have hsB := World.block_lt_of_cell? _ _ b_0; dsimp only at hsB
      go_wp2_with (first | (go_at_call 9; ((with_reducible refine (c1.out _ hw).mono ?_); rintro e w1 ⟨rfl, hb⟩; have hw := hw.trans (hb.mono hw.size); have A := A.below hb; have a_0 := A.box1; have hsA := World.block_lt_of_cell? _ _ a_0; dsimp only at hsA; have B := B.below hb; have b_0 := B.box1; have hsB := World.block_lt_of_cell? _ _ b_0; dsimp only at hsB; clear hb)) | (go_at_call 9; ((with_reducible refine (c2.out _ hw).mono ?_); rintro e w1 ⟨rfl, hb⟩; have hw := hw.trans (hb.mono hw.size); have A := A.below hb; have a_0 := A.box1; have hsA := World.block_lt_of_cell? _ _ a_0; dsimp only at hsA; have B := B.below hb; have b_0 := B.box1; have hsB := World.block_lt_of_cell? _ _ b_0; dsimp only at hsB; clear hb)))
      go_loopw [5] (fun i wr => ∃ k : Nat, k ≤ n ∧ k ≤ m ∧ i = .int .i64 k ∧ Below w.heap.size w wr ∧ RowAt wr w.heap.size 0 [.slice aa n ac] ∧ RowAt wr (w.heap.size + 1) 0 [.slice ba m bc] ∧ Hid (lessL a.nodes b.nodes = lessL (a.nodes.drop k) (b.nodes.drop k))) (fun i _ => n - (intOf i).toNat)
      case atStart => exact ⟨0, by omega, by omega, rfl, hw, A, B, rfl⟩
      case round =>
        clear hw A B a_0 b_0 hsA hsB
        obtain ⟨k, hk, hkm, rfl, hw, A, B, hF⟩ := hrel
        have a_0 := A.box1; have hsA := World.block_lt_of_cell? _ _ a_0; dsimp only at hsA; have b_0 := B.box1; have hsB := World.block_lt_of_cell? _ _ b_0; dsimp only at hsB
        by_cases hlt : k < n
        · by_cases hlt2 : k < m
          · obtain ⟨ab, ao, x, s1, _, rfl, P1, hx, r1⟩ := (a0.out.below GDNode.good hw).get hn hlt
            obtain ⟨bb, bo, y, s2, _, rfl, P2, hy, r2⟩ := (b0.out.below GDNode.good hw).get hm hlt2
            have hst := lessL_drop P1.out P2.out
            have hC := nodeCmp_ways x y
            obtain ⟨xu, rfl, -, hxk⟩ := hx
            obtain ⟨yu, rfl, -, hyk⟩ := hy
            obtain ⟨xa, xc, rfl⟩ := hxk.form
            obtain ⟨ya, yc, rfl⟩ := hyk.form
            clear hxk hyk P1 P2
            obtain ⟨e_0, e_1, e_2, e_3⟩ := r1.cells4
            obtain ⟨f_0, f_1, f_2, f_3⟩ := r2.cells4
            have hb1 := World.block_lt_of_cell? _ _ e_0
            have hb2 := World.block_lt_of_cell? _ _ f_0
            dsimp only at hb1 hb2
            clear r1 r2
            generalize x.kind = xk at *
            generalize y.kind = yk at *
            generalize x.n = xn at *
            generalize y.n = yn at *
            generalize x.s = xs at *
            generalize y.s = ys at *
            generalize x.kids.length = xl at *
            generalize y.kids.length = yl at *
            generalize hnc : nodeCmp x y = nc at *
            clear hnc
            rcases hC with ⟨h1, rfl⟩ | ⟨h1, h2, rfl⟩ | ⟨h1, h2, h3, rfl⟩ | ⟨h1, h2, h3, h4, rfl⟩ | ⟨h1, h2, h3, h4, rfl⟩
            all_goals replace hst := Lib.hid hst
            all_goals go_wp2_with fail
            all_goals first
              | (go_returns
                 refine ⟨?_, by go_grown⟩
                 rw [hfin.out, hF.out, hst.out]
                 first | rfl | (simp; done))
              | (go_roundw
                 case rel => exact ⟨k + 1, by omega, by omega, by go_num, by go_grown, A.below (by go_grown), B.below (by go_grown), hF.out.trans hst.out⟩
                 case measure => simp [intOf]; omega)
          · obtain rfl : m = k := by omega
            have hend : lessL (a.nodes.drop m) (b.nodes.drop m) = false := lessL_out (.inr (by have := hm.out; omega))
            replace hend := Lib.hid hend
            go_wp2_with fail
            go_returns
            exact ⟨by rw [hfin.out, hF.out, hend.out]; rfl, hw⟩
        · obtain rfl : n = k := by omega
          have hend : lessL (a.nodes.drop n) (b.nodes.drop n) = false := lessL_out (.inl (by have := hn.out; omega))
          replace hend := Lib.hid hend
          go_wp2_with fail
          go_returns
          exact ⟨by rw [hfin.out, hF.out, hend.out]; rfl, hw⟩

end Go.Proofs.Ytpblhonnknmjjaa
