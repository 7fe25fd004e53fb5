/- Pools: when they are right. -/
import Derived.Test.YtajbgkpjmgmdhaaHeap2
namespace Go.Proofs.Ytajbgkpjmgmdhaa
open Go.RowKit
set_option linter.unusedVariables false
set_option linter.unusedSimpArgs false
attribute [local go_sem] Ext.cell

def marksOf (n : Nat) (l : List Int) : List Bool := (List.range n).map fun i : Nat => l.contains (i : Int)
theorem marksOf_length (n : Nat) (l : List Int) : (marksOf n l).length = n := by simp [marksOf]
theorem marksOf_get {n : Nat} {l : List Int} {k : Nat} {b : Bool} (h : (marksOf n l)[k]? = some b) : b = l.contains (k : Int) := by
  have hk : k < n := by have := (List.getElem?_eq_some_iff.1 h).1; simpa [marksOf] using this
  simp [marksOf, hk] at h
  simp [← h]
def zeroCell (c : GCell) : Bool := decide (c.kind = 0) && decide (c.n = 0) && c.s.toList.isEmpty && zeroVal c.a && zeroVal c.b
def poolHolds (p : GPool) (v : GVal) : Bool := valOk v p.cells.length && (decide (v.kind ≠ 6) || !p.free.contains v.n)
def poolFits (p : GPool) (c : GCell) : Bool := cellOk c p.cells.length && poolHolds p c.a && (zeroVal c.b || poolHolds p c.b)

theorem valOk_cell {v : GVal} {m : Nat} (h : valOk v m = true) (h6 : v.kind = 6) : ∃ k : Nat, v.n = k ∧ k < m := by
  simp [valOk, h6] at h
  exact ⟨v.n.toNat, by omega, by omega⟩

set_option maxHeartbeats 1000000 in
theorem holds_c (p : GPool) (r : List Value) (lo : Nat) (v : GVal) (uf : Value) (lo2 : Nat) (hlen : p.cells.length ≤ 1048576) (w : World) (hp : GPool.R lo w r p) (hf : Sl BoolR 1 lo2 w uf (marksOf p.cells.length p.free)) :
    Calls Try.prog 57 #[.agg r.toArray, .agg #[.int .i64 v.kind, .int .i64 v.n, .string v.s], uf] w fun e w' => e = .returned (.bool (poolHolds p v)) ∧ Below w.heap.size w w' := by
  obtain ⟨u0, u1, rfl, -, a0, a1⟩ := hp
  obtain ⟨pa, pc, rfl⟩ := a0.form
  obtain ⟨qa, qc, rfl⟩ := a1.form
  obtain ⟨fa, fc, rfl, l1, m1, hh⟩ := hf
  rw [marksOf_length] at l1 ⊢
  have X1 : Hid (p.cells.length = (marksOf p.cells.length p.free).length) := (marksOf_length _ _).symm
  cases hv : valOk v p.cells.length
  · replace hv := Lib.hid hv
    clear hh X1
    go_enter Try.func57, Try.ntmps57
    go_upto_region 1 with fail
    have B : RowAt (w.alloc (.cells #[.slice pa p.cells.length pc, .slice qa p.free.length qc] 26)) (w.heap.size) 0 [.slice pa p.cells.length pc, .slice qa p.free.length qc] := RowAt.box w #[.slice pa p.cells.length pc, .slice qa p.free.length qc] 26
    have B := B.below (show Below (w.alloc (.cells #[.slice pa p.cells.length pc, .slice qa p.free.length qc] 26)).heap.size (w.alloc (.cells #[.slice pa p.cells.length pc, .slice qa p.free.length qc] 26)) ((w.alloc (.cells #[.slice pa p.cells.length pc, .slice qa p.free.length qc] 26)).alloc (.cells #[.int .i64 v.kind, .int .i64 v.n, .string v.s] 28)) by go_grown)
    have D : RowAt ((w.alloc (.cells #[.slice pa p.cells.length pc, .slice qa p.free.length qc] 26)).alloc (.cells #[.int .i64 v.kind, .int .i64 v.n, .string v.s] 28)) (w.heap.size + 1) 0 [.int .i64 v.kind, .int .i64 v.n, .string v.s] := by have h := RowAt.box (w.alloc (.cells #[.slice pa p.cells.length pc, .slice qa p.free.length qc] 26)) #[.int .i64 v.kind, .int .i64 v.n, .string v.s] 28; simp only [World.size_alloc] at h; exact h
    have hw : Below w.heap.size w ((w.alloc (.cells #[.slice pa p.cells.length pc, .slice qa p.free.length qc] 26)).alloc (.cells #[.int .i64 v.kind, .int .i64 v.n, .string v.s] 28)) := by go_grown
    generalize ((w.alloc (.cells #[.slice pa p.cells.length pc, .slice qa p.free.length qc] 26)).alloc (.cells #[.int .i64 v.kind, .int .i64 v.n, .string v.s] 28)) = w0 at *
    obtain ⟨b_0, b_1⟩ := B.box2; have hsB := World.block_lt_of_cell? _ _ b_0; dsimp only at hsB; obtain ⟨d_0, d_1, d_2⟩ := D.box3; have hsD := World.block_lt_of_cell? _ _ d_0; dsimp only at hsD
    go_wp2_with (go_at_call 78; ((with_reducible refine (hv.out ▸ valOk_c v p.cells.length (by omega) (by omega) _).mono ?_); rintro e w1 ⟨rfl, hb⟩; have hw := hw.trans (hb.mono hw.size); have B := B.below hb; obtain ⟨b_0, b_1⟩ := B.box2; have hsB := World.block_lt_of_cell? _ _ b_0; dsimp only at hsB; have D := D.below hb; obtain ⟨d_0, d_1, d_2⟩ := D.box3; have hsD := World.block_lt_of_cell? _ _ d_0; dsimp only at hsD; clear hb))
    all_goals (go_returns; refine ⟨?_, by first | assumption | go_grown⟩; (try clear hc hf); replace hv := hv.out; first | rfl | (simp_all [poolHolds]; done) | (simp_all [poolHolds] <;> (first | omega | grind)))
  · cases h6 : (v.kind != 6)
    · have h6' : v.kind = 6 := by simpa using h6
      obtain ⟨k, hk, hkm⟩ := valOk_cell hv h6'
      obtain ⟨b1, o1, q, s1, _, rfl, P1, rfl, r1⟩ := hh.get X1 hkm
      rw [Nat.mul_one] at r1
      have hq := marksOf_get P1.out
      have hc := valOk_c v p.cells.length (by omega) (by omega)
      rw [hv, hk] at hc
      rw [hk]
      replace hv := Lib.hid hv; replace hk := Lib.hid hk; replace h6' := Lib.hid h6'; replace hq := Lib.hid hq; replace hc := Lib.hid hc
      clear hh X1 P1
      go_enter Try.func57, Try.ntmps57
      go_upto_region 1 with fail
      have B : RowAt (w.alloc (.cells #[.slice pa p.cells.length pc, .slice qa p.free.length qc] 26)) (w.heap.size) 0 [.slice pa p.cells.length pc, .slice qa p.free.length qc] := RowAt.box w #[.slice pa p.cells.length pc, .slice qa p.free.length qc] 26
      have B := B.below (show Below (w.alloc (.cells #[.slice pa p.cells.length pc, .slice qa p.free.length qc] 26)).heap.size (w.alloc (.cells #[.slice pa p.cells.length pc, .slice qa p.free.length qc] 26)) ((w.alloc (.cells #[.slice pa p.cells.length pc, .slice qa p.free.length qc] 26)).alloc (.cells #[.int .i64 v.kind, .int .i64 k, .string v.s] 28)) by go_grown)
      have D : RowAt ((w.alloc (.cells #[.slice pa p.cells.length pc, .slice qa p.free.length qc] 26)).alloc (.cells #[.int .i64 v.kind, .int .i64 k, .string v.s] 28)) (w.heap.size + 1) 0 [.int .i64 v.kind, .int .i64 k, .string v.s] := by have h := RowAt.box (w.alloc (.cells #[.slice pa p.cells.length pc, .slice qa p.free.length qc] 26)) #[.int .i64 v.kind, .int .i64 k, .string v.s] 28; simp only [World.size_alloc] at h; exact h
      have hw : Below w.heap.size w ((w.alloc (.cells #[.slice pa p.cells.length pc, .slice qa p.free.length qc] 26)).alloc (.cells #[.int .i64 v.kind, .int .i64 k, .string v.s] 28)) := by go_grown
      generalize ((w.alloc (.cells #[.slice pa p.cells.length pc, .slice qa p.free.length qc] 26)).alloc (.cells #[.int .i64 v.kind, .int .i64 k, .string v.s] 28)) = w0 at *
      have E := r1.below hw
      obtain ⟨b_0, b_1⟩ := B.box2; have hsB := World.block_lt_of_cell? _ _ b_0; dsimp only at hsB; obtain ⟨d_0, d_1, d_2⟩ := D.box3; have hsD := World.block_lt_of_cell? _ _ d_0; dsimp only at hsD; have e_0 := E.cells1; have hsE := World.block_lt_of_cell? _ _ e_0; dsimp only at hsE
      cases q
      all_goals go_wp2_with (go_at_call 78; ((with_reducible refine (hc.out _).mono ?_); rintro e w1 ⟨rfl, hb⟩; have hw := hw.trans (hb.mono hw.size); have B := B.below hb; obtain ⟨b_0, b_1⟩ := B.box2; have hsB := World.block_lt_of_cell? _ _ b_0; dsimp only at hsB; have D := D.below hb; obtain ⟨d_0, d_1, d_2⟩ := D.box3; have hsD := World.block_lt_of_cell? _ _ d_0; dsimp only at hsD; have E := E.below hb; have e_0 := E.cells1; have hsE := World.block_lt_of_cell? _ _ e_0; dsimp only at hsE; clear hb))
      all_goals (go_returns; refine ⟨?_, by first | assumption | go_grown⟩; (try clear hc hf); replace hv := hv.out; replace hk := hk.out; replace h6' := h6'.out; replace hq := hq.out; first | rfl | (simp_all [poolHolds]; done) | (simp_all [poolHolds] <;> (first | omega | grind)))
    · replace hv := Lib.hid hv
      clear hh X1
      go_enter Try.func57, Try.ntmps57
      go_upto_region 1 with fail
      have B : RowAt (w.alloc (.cells #[.slice pa p.cells.length pc, .slice qa p.free.length qc] 26)) (w.heap.size) 0 [.slice pa p.cells.length pc, .slice qa p.free.length qc] := RowAt.box w #[.slice pa p.cells.length pc, .slice qa p.free.length qc] 26
      have B := B.below (show Below (w.alloc (.cells #[.slice pa p.cells.length pc, .slice qa p.free.length qc] 26)).heap.size (w.alloc (.cells #[.slice pa p.cells.length pc, .slice qa p.free.length qc] 26)) ((w.alloc (.cells #[.slice pa p.cells.length pc, .slice qa p.free.length qc] 26)).alloc (.cells #[.int .i64 v.kind, .int .i64 v.n, .string v.s] 28)) by go_grown)
      have D : RowAt ((w.alloc (.cells #[.slice pa p.cells.length pc, .slice qa p.free.length qc] 26)).alloc (.cells #[.int .i64 v.kind, .int .i64 v.n, .string v.s] 28)) (w.heap.size + 1) 0 [.int .i64 v.kind, .int .i64 v.n, .string v.s] := by have h := RowAt.box (w.alloc (.cells #[.slice pa p.cells.length pc, .slice qa p.free.length qc] 26)) #[.int .i64 v.kind, .int .i64 v.n, .string v.s] 28; simp only [World.size_alloc] at h; exact h
      have hw : Below w.heap.size w ((w.alloc (.cells #[.slice pa p.cells.length pc, .slice qa p.free.length qc] 26)).alloc (.cells #[.int .i64 v.kind, .int .i64 v.n, .string v.s] 28)) := by go_grown
      generalize ((w.alloc (.cells #[.slice pa p.cells.length pc, .slice qa p.free.length qc] 26)).alloc (.cells #[.int .i64 v.kind, .int .i64 v.n, .string v.s] 28)) = w0 at *
      obtain ⟨b_0, b_1⟩ := B.box2; have hsB := World.block_lt_of_cell? _ _ b_0; dsimp only at hsB; obtain ⟨d_0, d_1, d_2⟩ := D.box3; have hsD := World.block_lt_of_cell? _ _ d_0; dsimp only at hsD
      go_wp2_with (go_at_call 78; ((with_reducible refine (hv.out ▸ valOk_c v p.cells.length (by omega) (by omega) _).mono ?_); rintro e w1 ⟨rfl, hb⟩; have hw := hw.trans (hb.mono hw.size); have B := B.below hb; obtain ⟨b_0, b_1⟩ := B.box2; have hsB := World.block_lt_of_cell? _ _ b_0; dsimp only at hsB; have D := D.below hb; obtain ⟨d_0, d_1, d_2⟩ := D.box3; have hsD := World.block_lt_of_cell? _ _ d_0; dsimp only at hsD; clear hb))
      all_goals (go_returns; refine ⟨?_, by first | assumption | go_grown⟩; (try clear hc hf); replace hv := hv.out; first | rfl | (simp_all [poolHolds]; done) | (simp_all [poolHolds] <;> (first | omega | grind)))

set_option maxHeartbeats 2000000 in
theorem fits_c (p : GPool) (r : List Value) (lo : Nat) (c : GCell) (uf : Value) (lo2 : Nat) (hlen : p.cells.length ≤ 1048576) (w : World) (hp : GPool.R lo w r p) (hf : Sl BoolR 1 lo2 w uf (marksOf p.cells.length p.free)) :
    Calls Try.prog 39 #[.agg r.toArray, .agg #[.int .i64 c.kind, .int .i64 c.n, .string c.s, .int .i64 c.a.kind, .int .i64 c.a.n, .string c.a.s, .int .i64 c.b.kind, .int .i64 c.b.n, .string c.b.s], uf] w fun e w' => e = .returned (.bool (poolFits p c)) ∧ Below w.heap.size w w' := by
  have Hp := hp
  obtain ⟨u0, u1, rfl, -, a0, a1⟩ := hp
  obtain ⟨pa, pc, rfl⟩ := a0.form
  obtain ⟨qa, qc, rfl⟩ := a1.form
  obtain ⟨fa, fc, rfl⟩ := hf.form
  have c1 := fun W (hW : Below w.heap.size w W) => cellOk_c c p.cells.length (by omega) (by omega) W
  have c2 := fun W (hW : Below w.heap.size w W) => holds_c p _ lo c.a _ lo2 hlen W (GPool.good.below Hp hW) (hf.below BoolR.good hW)
  have c3 := fun W (hW : Below w.heap.size w W) => holds_c p _ lo c.b _ lo2 hlen W (GPool.good.below Hp hW) (hf.below BoolR.good hW)
  simp only [marksOf_length] at c2 c3 ⊢
  generalize h1 : cellOk c p.cells.length = k1 at *
  generalize h2 : poolHolds p c.a = k2 at *
  generalize h3 : poolHolds p c.b = k3 at *
  replace h1 := Lib.hid h1; replace h2 := Lib.hid h2; replace h3 := Lib.hid h3; replace c1 := Lib.hid c1; replace c2 := Lib.hid c2; replace c3 := Lib.hid c3
  clear hf a0 a1 Hp
  go_enter Try.func39, Try.ntmps39
  go_upto_region 1 with fail
  have B : RowAt (w.alloc (.cells #[.slice pa p.cells.length pc, .slice qa p.free.length qc] 26)) (w.heap.size) 0 [.slice pa p.cells.length pc, .slice qa p.free.length qc] := RowAt.box w #[.slice pa p.cells.length pc, .slice qa p.free.length qc] 26
  have B := B.below (show Below (w.alloc (.cells #[.slice pa p.cells.length pc, .slice qa p.free.length qc] 26)).heap.size (w.alloc (.cells #[.slice pa p.cells.length pc, .slice qa p.free.length qc] 26)) ((w.alloc (.cells #[.slice pa p.cells.length pc, .slice qa p.free.length qc] 26)).alloc (.cells #[.int .i64 c.kind, .int .i64 c.n, .string c.s, .int .i64 c.a.kind, .int .i64 c.a.n, .string c.a.s, .int .i64 c.b.kind, .int .i64 c.b.n, .string c.b.s] 30)) by go_grown)
  have D : RowAt ((w.alloc (.cells #[.slice pa p.cells.length pc, .slice qa p.free.length qc] 26)).alloc (.cells #[.int .i64 c.kind, .int .i64 c.n, .string c.s, .int .i64 c.a.kind, .int .i64 c.a.n, .string c.a.s, .int .i64 c.b.kind, .int .i64 c.b.n, .string c.b.s] 30)) (w.heap.size + 1) 0 [.int .i64 c.kind, .int .i64 c.n, .string c.s, .int .i64 c.a.kind, .int .i64 c.a.n, .string c.a.s, .int .i64 c.b.kind, .int .i64 c.b.n, .string c.b.s] := by have h := RowAt.box (w.alloc (.cells #[.slice pa p.cells.length pc, .slice qa p.free.length qc] 26)) #[.int .i64 c.kind, .int .i64 c.n, .string c.s, .int .i64 c.a.kind, .int .i64 c.a.n, .string c.a.s, .int .i64 c.b.kind, .int .i64 c.b.n, .string c.b.s] 30; simp only [World.size_alloc] at h; exact h
  have hw : Below w.heap.size w ((w.alloc (.cells #[.slice pa p.cells.length pc, .slice qa p.free.length qc] 26)).alloc (.cells #[.int .i64 c.kind, .int .i64 c.n, .string c.s, .int .i64 c.a.kind, .int .i64 c.a.n, .string c.a.s, .int .i64 c.b.kind, .int .i64 c.b.n, .string c.b.s] 30)) := by go_grown
  generalize ((w.alloc (.cells #[.slice pa p.cells.length pc, .slice qa p.free.length qc] 26)).alloc (.cells #[.int .i64 c.kind, .int .i64 c.n, .string c.s, .int .i64 c.a.kind, .int .i64 c.a.n, .string c.a.s, .int .i64 c.b.kind, .int .i64 c.b.n, .string c.b.s] 30)) = w0 at *
  obtain ⟨b_0, b_1⟩ := B.box2; have hsB := World.block_lt_of_cell? _ _ b_0; dsimp only at hsB; obtain ⟨d_0, d_1, d_2, d_3, d_4, d_5, d_6, d_7, d_8⟩ := D.box9; have hsD := World.block_lt_of_cell? _ _ d_0; dsimp only at hsD
  cases k1
  · go_wp2_with (go_at_call 72; ((with_reducible refine (c1.out _ hw).mono ?_); rintro e w1 ⟨rfl, hb⟩; have hw := hw.trans (hb.mono hw.size); have B := B.below hb; obtain ⟨b_0, b_1⟩ := B.box2; have hsB := World.block_lt_of_cell? _ _ b_0; dsimp only at hsB; have D := D.below hb; obtain ⟨d_0, d_1, d_2, d_3, d_4, d_5, d_6, d_7, d_8⟩ := D.box9; have hsD := World.block_lt_of_cell? _ _ d_0; dsimp only at hsD; clear hb))
    all_goals (go_returns; refine ⟨?_, by first | assumption | go_grown⟩; (try clear hc hf); replace h1 := h1.out; first | rfl | (simp_all [poolFits]; done) | (simp_all [poolFits] <;> (first | omega | grind)))
  cases k2
  · go_wp2_with (first | (go_at_call 72; ((with_reducible refine (c1.out _ hw).mono ?_); rintro e w1 ⟨rfl, hb⟩; have hw := hw.trans (hb.mono hw.size); have B := B.below hb; obtain ⟨b_0, b_1⟩ := B.box2; have hsB := World.block_lt_of_cell? _ _ b_0; dsimp only at hsB; have D := D.below hb; obtain ⟨d_0, d_1, d_2, d_3, d_4, d_5, d_6, d_7, d_8⟩ := D.box9; have hsD := World.block_lt_of_cell? _ _ d_0; dsimp only at hsD; clear hb)) | (go_at_call 57; ((with_reducible refine (c2.out _ hw).mono ?_); rintro e w1 ⟨rfl, hb⟩; have hw := hw.trans (hb.mono hw.size); have B := B.below hb; obtain ⟨b_0, b_1⟩ := B.box2; have hsB := World.block_lt_of_cell? _ _ b_0; dsimp only at hsB; have D := D.below hb; obtain ⟨d_0, d_1, d_2, d_3, d_4, d_5, d_6, d_7, d_8⟩ := D.box9; have hsD := World.block_lt_of_cell? _ _ d_0; dsimp only at hsD; clear hb)))
    all_goals (go_returns; refine ⟨?_, by first | assumption | go_grown⟩; (try clear hc hf); replace h1 := h1.out; replace h2 := h2.out; first | rfl | (simp_all [poolFits]; done) | (simp_all [poolFits] <;> (first | omega | grind)))
  cases e1 : (c.b.kind == 0) <;> cases e2 : (c.b.n == 0) <;> cases e3 : c.b.s.toList.isEmpty <;> cases k3
  all_goals go_wp2_with (first | (go_at_call 72; ((with_reducible refine (c1.out _ hw).mono ?_); rintro e w1 ⟨rfl, hb⟩; have hw := hw.trans (hb.mono hw.size); have B := B.below hb; obtain ⟨b_0, b_1⟩ := B.box2; have hsB := World.block_lt_of_cell? _ _ b_0; dsimp only at hsB; have D := D.below hb; obtain ⟨d_0, d_1, d_2, d_3, d_4, d_5, d_6, d_7, d_8⟩ := D.box9; have hsD := World.block_lt_of_cell? _ _ d_0; dsimp only at hsD; clear hb)) | (go_at_call 57; ((with_reducible refine (c2.out _ hw).mono ?_); rintro e w1 ⟨rfl, hb⟩; have hw := hw.trans (hb.mono hw.size); have B := B.below hb; obtain ⟨b_0, b_1⟩ := B.box2; have hsB := World.block_lt_of_cell? _ _ b_0; dsimp only at hsB; have D := D.below hb; obtain ⟨d_0, d_1, d_2, d_3, d_4, d_5, d_6, d_7, d_8⟩ := D.box9; have hsD := World.block_lt_of_cell? _ _ d_0; dsimp only at hsD; clear hb)) | (go_at_call 57; ((with_reducible refine (c3.out _ hw).mono ?_); rintro e w1 ⟨rfl, hb⟩; have hw := hw.trans (hb.mono hw.size); have B := B.below hb; obtain ⟨b_0, b_1⟩ := B.box2; have hsB := World.block_lt_of_cell? _ _ b_0; dsimp only at hsB; have D := D.below hb; obtain ⟨d_0, d_1, d_2, d_3, d_4, d_5, d_6, d_7, d_8⟩ := D.box9; have hsD := World.block_lt_of_cell? _ _ d_0; dsimp only at hsD; clear hb)))
  all_goals (go_returns; refine ⟨?_, by first | assumption | go_grown⟩; (try clear hc hf); replace h1 := h1.out; replace h2 := h2.out; replace h3 := h3.out; first | rfl | (simp_all [poolFits, zeroVal]; done) | (simp_all [poolFits, zeroVal] <;> (first | omega | grind)))

set_option maxHeartbeats 2000000 in
theorem l20Val_c (p : GPool) (r : List Value) (lo : Nat) (v : GVal) (hn : I64 v.n) (hlen : p.cells.length ≤ 1048576) (w : World) (hp : GPool.R lo w r p) :
    Calls Try.prog 76 #[.agg r.toArray, .agg #[.int .i64 v.kind, .int .i64 v.n, .string v.s]] w fun e w' => e = .returned (.bool (poolHolds p v)) ∧ Below w.heap.size w w' := by
  have Hp := hp
  obtain ⟨u0, u1, rfl, -, a0, a1⟩ := hp
  obtain ⟨pa, pc, rfl⟩ := a0.form
  obtain ⟨qa, qc, rfl⟩ := a1.form
  have c1 := fun W (hW : Below w.heap.size w W) => l11Val_c v hn p.cells _ lo hlen W (a0.below GCell.good hW)
  have c2 := fun W (hW : Below w.heap.size w W) => l05Has_c p.free _ lo v.n W (a1.below IntR.good hW)
  generalize h1 : valOk v p.cells.length = k1 at *
  generalize h2 : p.free.contains v.n = k2 at *
  replace h1 := Lib.hid h1; replace h2 := Lib.hid h2; replace c1 := Lib.hid c1; replace c2 := Lib.hid c2
  clear a0 a1 Hp
  go_enter Try.func76, Try.ntmps76
  go_upto_region 1 with fail
  have B : RowAt (w.alloc (.cells #[.slice pa p.cells.length pc, .slice qa p.free.length qc] 26)) (w.heap.size) 0 [.slice pa p.cells.length pc, .slice qa p.free.length qc] := RowAt.box w #[.slice pa p.cells.length pc, .slice qa p.free.length qc] 26
  have B := B.below (show Below (w.alloc (.cells #[.slice pa p.cells.length pc, .slice qa p.free.length qc] 26)).heap.size (w.alloc (.cells #[.slice pa p.cells.length pc, .slice qa p.free.length qc] 26)) ((w.alloc (.cells #[.slice pa p.cells.length pc, .slice qa p.free.length qc] 26)).alloc (.cells #[.int .i64 v.kind, .int .i64 v.n, .string v.s] 28)) by go_grown)
  have D : RowAt ((w.alloc (.cells #[.slice pa p.cells.length pc, .slice qa p.free.length qc] 26)).alloc (.cells #[.int .i64 v.kind, .int .i64 v.n, .string v.s] 28)) (w.heap.size + 1) 0 [.int .i64 v.kind, .int .i64 v.n, .string v.s] := by have h := RowAt.box (w.alloc (.cells #[.slice pa p.cells.length pc, .slice qa p.free.length qc] 26)) #[.int .i64 v.kind, .int .i64 v.n, .string v.s] 28; simp only [World.size_alloc] at h; exact h
  have hw : Below w.heap.size w ((w.alloc (.cells #[.slice pa p.cells.length pc, .slice qa p.free.length qc] 26)).alloc (.cells #[.int .i64 v.kind, .int .i64 v.n, .string v.s] 28)) := by go_grown
  generalize ((w.alloc (.cells #[.slice pa p.cells.length pc, .slice qa p.free.length qc] 26)).alloc (.cells #[.int .i64 v.kind, .int .i64 v.n, .string v.s] 28)) = w0 at *
  obtain ⟨b_0, b_1⟩ := B.box2; have hsB := World.block_lt_of_cell? _ _ b_0; dsimp only at hsB; obtain ⟨d_0, d_1, d_2⟩ := D.box3; have hsD := World.block_lt_of_cell? _ _ d_0; dsimp only at hsD
  cases e1 : (v.kind != 6) <;> cases k1 <;> cases k2
  all_goals go_wp2_with (first | (go_at_call 86; ((with_reducible refine (c1.out _ hw).mono ?_); rintro e w1 ⟨rfl, hb⟩; have hw := hw.trans (hb.mono hw.size); have B := B.below hb; obtain ⟨b_0, b_1⟩ := B.box2; have hsB := World.block_lt_of_cell? _ _ b_0; dsimp only at hsB; have D := D.below hb; obtain ⟨d_0, d_1, d_2⟩ := D.box3; have hsD := World.block_lt_of_cell? _ _ d_0; dsimp only at hsD; clear hb)) | (go_at_call 61; ((with_reducible refine (c2.out _ hw).mono ?_); rintro e w1 ⟨rfl, hb⟩; have hw := hw.trans (hb.mono hw.size); have B := B.below hb; obtain ⟨b_0, b_1⟩ := B.box2; have hsB := World.block_lt_of_cell? _ _ b_0; dsimp only at hsB; have D := D.below hb; obtain ⟨d_0, d_1, d_2⟩ := D.box3; have hsD := World.block_lt_of_cell? _ _ d_0; dsimp only at hsD; clear hb)))
  all_goals (go_returns; refine ⟨?_, by first | assumption | go_grown⟩; (try clear hc hf); replace h1 := h1.out; replace h2 := h2.out; first | rfl | (simp_all [poolHolds]; done) | (simp_all [poolHolds] <;> (first | omega | grind)))

set_option maxHeartbeats 2000000 in
theorem l20Cell_c (p : GPool) (r : List Value) (lo : Nat) (c : GCell) (hc : c.wf) (hlen : p.cells.length ≤ 1048576) (w : World) (hp : GPool.R lo w r p) :
    Calls Try.prog 43 #[.agg r.toArray, .agg #[.int .i64 c.kind, .int .i64 c.n, .string c.s, .int .i64 c.a.kind, .int .i64 c.a.n, .string c.a.s, .int .i64 c.b.kind, .int .i64 c.b.n, .string c.b.s]] w fun e w' => e = .returned (.bool (poolFits p c)) ∧ Below w.heap.size w w' := by
  have Hp := hp
  obtain ⟨u0, u1, rfl, -, a0, a1⟩ := hp
  obtain ⟨pa, pc, rfl⟩ := a0.form
  obtain ⟨qa, qc, rfl⟩ := a1.form
  have han : I64 c.a.n := hc.2.2.2.2.1
  have hbn : I64 c.b.n := hc.2.2.2.2.2.2.2.1
  have c1 := fun W (hW : Below w.heap.size w W) => l11Cell_c c hc p.cells _ lo hlen W (a0.below GCell.good hW)
  have c2 := fun W (hW : Below w.heap.size w W) => l20Val_c p _ lo c.a han hlen W (GPool.good.below Hp hW)
  have c3 := fun W (hW : Below w.heap.size w W) => l20Val_c p _ lo c.b hbn hlen W (GPool.good.below Hp hW)
  generalize h1 : cellOk c p.cells.length = k1 at *
  generalize h2 : poolHolds p c.a = k2 at *
  generalize h3 : poolHolds p c.b = k3 at *
  replace h1 := Lib.hid h1; replace h2 := Lib.hid h2; replace h3 := Lib.hid h3; replace c1 := Lib.hid c1; replace c2 := Lib.hid c2; replace c3 := Lib.hid c3
  clear a0 a1 Hp hc han hbn
  go_enter Try.func43, Try.ntmps43
  go_upto_region 2 with fail
  have B : RowAt (w.alloc (.cells #[.slice pa p.cells.length pc, .slice qa p.free.length qc] 26)) (w.heap.size) 0 [.slice pa p.cells.length pc, .slice qa p.free.length qc] := RowAt.box w #[.slice pa p.cells.length pc, .slice qa p.free.length qc] 26
  have B := B.below (show Below (w.alloc (.cells #[.slice pa p.cells.length pc, .slice qa p.free.length qc] 26)).heap.size (w.alloc (.cells #[.slice pa p.cells.length pc, .slice qa p.free.length qc] 26)) ((w.alloc (.cells #[.slice pa p.cells.length pc, .slice qa p.free.length qc] 26)).alloc (.cells #[.int .i64 c.kind, .int .i64 c.n, .string c.s, .int .i64 c.a.kind, .int .i64 c.a.n, .string c.a.s, .int .i64 c.b.kind, .int .i64 c.b.n, .string c.b.s] 30)) by go_grown)
  have D : RowAt ((w.alloc (.cells #[.slice pa p.cells.length pc, .slice qa p.free.length qc] 26)).alloc (.cells #[.int .i64 c.kind, .int .i64 c.n, .string c.s, .int .i64 c.a.kind, .int .i64 c.a.n, .string c.a.s, .int .i64 c.b.kind, .int .i64 c.b.n, .string c.b.s] 30)) (w.heap.size + 1) 0 [.int .i64 c.kind, .int .i64 c.n, .string c.s, .int .i64 c.a.kind, .int .i64 c.a.n, .string c.a.s, .int .i64 c.b.kind, .int .i64 c.b.n, .string c.b.s] := by have h := RowAt.box (w.alloc (.cells #[.slice pa p.cells.length pc, .slice qa p.free.length qc] 26)) #[.int .i64 c.kind, .int .i64 c.n, .string c.s, .int .i64 c.a.kind, .int .i64 c.a.n, .string c.a.s, .int .i64 c.b.kind, .int .i64 c.b.n, .string c.b.s] 30; simp only [World.size_alloc] at h; exact h
  have B := B.below (show Below ((w.alloc (.cells #[.slice pa p.cells.length pc, .slice qa p.free.length qc] 26)).alloc (.cells #[.int .i64 c.kind, .int .i64 c.n, .string c.s, .int .i64 c.a.kind, .int .i64 c.a.n, .string c.a.s, .int .i64 c.b.kind, .int .i64 c.b.n, .string c.b.s] 30)).heap.size ((w.alloc (.cells #[.slice pa p.cells.length pc, .slice qa p.free.length qc] 26)).alloc (.cells #[.int .i64 c.kind, .int .i64 c.n, .string c.s, .int .i64 c.a.kind, .int .i64 c.a.n, .string c.a.s, .int .i64 c.b.kind, .int .i64 c.b.n, .string c.b.s] 30)) (((w.alloc (.cells #[.slice pa p.cells.length pc, .slice qa p.free.length qc] 26)).alloc (.cells #[.int .i64 c.kind, .int .i64 c.n, .string c.s, .int .i64 c.a.kind, .int .i64 c.a.n, .string c.a.s, .int .i64 c.b.kind, .int .i64 c.b.n, .string c.b.s] 30)).alloc (.cells #[.int .i64 0, .int .i64 0, .string ⟨#[]⟩] 28)) by go_grown)
  have D := D.below (show Below ((w.alloc (.cells #[.slice pa p.cells.length pc, .slice qa p.free.length qc] 26)).alloc (.cells #[.int .i64 c.kind, .int .i64 c.n, .string c.s, .int .i64 c.a.kind, .int .i64 c.a.n, .string c.a.s, .int .i64 c.b.kind, .int .i64 c.b.n, .string c.b.s] 30)).heap.size ((w.alloc (.cells #[.slice pa p.cells.length pc, .slice qa p.free.length qc] 26)).alloc (.cells #[.int .i64 c.kind, .int .i64 c.n, .string c.s, .int .i64 c.a.kind, .int .i64 c.a.n, .string c.a.s, .int .i64 c.b.kind, .int .i64 c.b.n, .string c.b.s] 30)) (((w.alloc (.cells #[.slice pa p.cells.length pc, .slice qa p.free.length qc] 26)).alloc (.cells #[.int .i64 c.kind, .int .i64 c.n, .string c.s, .int .i64 c.a.kind, .int .i64 c.a.n, .string c.a.s, .int .i64 c.b.kind, .int .i64 c.b.n, .string c.b.s] 30)).alloc (.cells #[.int .i64 0, .int .i64 0, .string ⟨#[]⟩] 28)) by go_grown)
  have E : RowAt (((w.alloc (.cells #[.slice pa p.cells.length pc, .slice qa p.free.length qc] 26)).alloc (.cells #[.int .i64 c.kind, .int .i64 c.n, .string c.s, .int .i64 c.a.kind, .int .i64 c.a.n, .string c.a.s, .int .i64 c.b.kind, .int .i64 c.b.n, .string c.b.s] 30)).alloc (.cells #[.int .i64 0, .int .i64 0, .string ⟨#[]⟩] 28)) (w.heap.size + 1 + 1) 0 [.int .i64 0, .int .i64 0, .string ⟨#[]⟩] := by have h := RowAt.box ((w.alloc (.cells #[.slice pa p.cells.length pc, .slice qa p.free.length qc] 26)).alloc (.cells #[.int .i64 c.kind, .int .i64 c.n, .string c.s, .int .i64 c.a.kind, .int .i64 c.a.n, .string c.a.s, .int .i64 c.b.kind, .int .i64 c.b.n, .string c.b.s] 30)) #[.int .i64 0, .int .i64 0, .string ⟨#[]⟩] 28; simp only [World.size_alloc] at h; exact h
  have hw : Below w.heap.size w (((w.alloc (.cells #[.slice pa p.cells.length pc, .slice qa p.free.length qc] 26)).alloc (.cells #[.int .i64 c.kind, .int .i64 c.n, .string c.s, .int .i64 c.a.kind, .int .i64 c.a.n, .string c.a.s, .int .i64 c.b.kind, .int .i64 c.b.n, .string c.b.s] 30)).alloc (.cells #[.int .i64 0, .int .i64 0, .string ⟨#[]⟩] 28)) := by go_grown
  generalize (((w.alloc (.cells #[.slice pa p.cells.length pc, .slice qa p.free.length qc] 26)).alloc (.cells #[.int .i64 c.kind, .int .i64 c.n, .string c.s, .int .i64 c.a.kind, .int .i64 c.a.n, .string c.a.s, .int .i64 c.b.kind, .int .i64 c.b.n, .string c.b.s] 30)).alloc (.cells #[.int .i64 0, .int .i64 0, .string ⟨#[]⟩] 28)) = w0 at *
  obtain ⟨b_0, b_1⟩ := B.box2; have hsB := World.block_lt_of_cell? _ _ b_0; dsimp only at hsB; obtain ⟨d_0, d_1, d_2, d_3, d_4, d_5, d_6, d_7, d_8⟩ := D.box9; have hsD := World.block_lt_of_cell? _ _ d_0; dsimp only at hsD; obtain ⟨e_0, e_1, e_2⟩ := E.box3; have hsE := World.block_lt_of_cell? _ _ e_0; dsimp only at hsE
  cases k1
  · go_wp2_with (go_at_call 75; ((with_reducible refine (c1.out _ hw).mono ?_); rintro e w1 ⟨rfl, hb⟩; have hw := hw.trans (hb.mono hw.size); have B := B.below hb; obtain ⟨b_0, b_1⟩ := B.box2; have hsB := World.block_lt_of_cell? _ _ b_0; dsimp only at hsB; have D := D.below hb; obtain ⟨d_0, d_1, d_2, d_3, d_4, d_5, d_6, d_7, d_8⟩ := D.box9; have hsD := World.block_lt_of_cell? _ _ d_0; dsimp only at hsD; have E := E.below hb; obtain ⟨e_0, e_1, e_2⟩ := E.box3; have hsE := World.block_lt_of_cell? _ _ e_0; dsimp only at hsE; clear hb))
    all_goals (go_returns; refine ⟨?_, by first | assumption | go_grown⟩; (try clear hc hf); replace h1 := h1.out; first | rfl | (simp_all [poolFits]; done) | (simp_all [poolFits] <;> (first | omega | grind)))
  cases k2
  · go_wp2_with (first | (go_at_call 75; ((with_reducible refine (c1.out _ hw).mono ?_); rintro e w1 ⟨rfl, hb⟩; have hw := hw.trans (hb.mono hw.size); have B := B.below hb; obtain ⟨b_0, b_1⟩ := B.box2; have hsB := World.block_lt_of_cell? _ _ b_0; dsimp only at hsB; have D := D.below hb; obtain ⟨d_0, d_1, d_2, d_3, d_4, d_5, d_6, d_7, d_8⟩ := D.box9; have hsD := World.block_lt_of_cell? _ _ d_0; dsimp only at hsD; have E := E.below hb; obtain ⟨e_0, e_1, e_2⟩ := E.box3; have hsE := World.block_lt_of_cell? _ _ e_0; dsimp only at hsE; clear hb)) | (go_at_call 76; ((with_reducible refine (c2.out _ hw).mono ?_); rintro e w1 ⟨rfl, hb⟩; have hw := hw.trans (hb.mono hw.size); have B := B.below hb; obtain ⟨b_0, b_1⟩ := B.box2; have hsB := World.block_lt_of_cell? _ _ b_0; dsimp only at hsB; have D := D.below hb; obtain ⟨d_0, d_1, d_2, d_3, d_4, d_5, d_6, d_7, d_8⟩ := D.box9; have hsD := World.block_lt_of_cell? _ _ d_0; dsimp only at hsD; have E := E.below hb; obtain ⟨e_0, e_1, e_2⟩ := E.box3; have hsE := World.block_lt_of_cell? _ _ e_0; dsimp only at hsE; clear hb)))
    all_goals (go_returns; refine ⟨?_, by first | assumption | go_grown⟩; (try clear hc hf); replace h1 := h1.out; replace h2 := h2.out; first | rfl | (simp_all [poolFits]; done) | (simp_all [poolFits] <;> (first | omega | grind)))
  cases e1 : (c.b.kind == 0) <;> cases e2 : (c.b.n == 0) <;> cases e3 : c.b.s.toList.isEmpty <;> cases k3
  all_goals go_wp2_with (first | (go_at_call 75; ((with_reducible refine (c1.out _ hw).mono ?_); rintro e w1 ⟨rfl, hb⟩; have hw := hw.trans (hb.mono hw.size); have B := B.below hb; obtain ⟨b_0, b_1⟩ := B.box2; have hsB := World.block_lt_of_cell? _ _ b_0; dsimp only at hsB; have D := D.below hb; obtain ⟨d_0, d_1, d_2, d_3, d_4, d_5, d_6, d_7, d_8⟩ := D.box9; have hsD := World.block_lt_of_cell? _ _ d_0; dsimp only at hsD; have E := E.below hb; obtain ⟨e_0, e_1, e_2⟩ := E.box3; have hsE := World.block_lt_of_cell? _ _ e_0; dsimp only at hsE; clear hb)) | (go_at_call 76; ((with_reducible refine (c2.out _ hw).mono ?_); rintro e w1 ⟨rfl, hb⟩; have hw := hw.trans (hb.mono hw.size); have B := B.below hb; obtain ⟨b_0, b_1⟩ := B.box2; have hsB := World.block_lt_of_cell? _ _ b_0; dsimp only at hsB; have D := D.below hb; obtain ⟨d_0, d_1, d_2, d_3, d_4, d_5, d_6, d_7, d_8⟩ := D.box9; have hsD := World.block_lt_of_cell? _ _ d_0; dsimp only at hsD; have E := E.below hb; obtain ⟨e_0, e_1, e_2⟩ := E.box3; have hsE := World.block_lt_of_cell? _ _ e_0; dsimp only at hsE; clear hb)) | (go_at_call 76; ((with_reducible refine (c3.out _ hw).mono ?_); rintro e w1 ⟨rfl, hb⟩; have hw := hw.trans (hb.mono hw.size); have B := B.below hb; obtain ⟨b_0, b_1⟩ := B.box2; have hsB := World.block_lt_of_cell? _ _ b_0; dsimp only at hsB; have D := D.below hb; obtain ⟨d_0, d_1, d_2, d_3, d_4, d_5, d_6, d_7, d_8⟩ := D.box9; have hsD := World.block_lt_of_cell? _ _ d_0; dsimp only at hsD; have E := E.below hb; obtain ⟨e_0, e_1, e_2⟩ := E.box3; have hsE := World.block_lt_of_cell? _ _ e_0; dsimp only at hsE; clear hb)))
  all_goals (go_returns; refine ⟨?_, by first | assumption | go_grown⟩; (try clear hc hf); replace h1 := h1.out; replace h2 := h2.out; replace h3 := h3.out; first | rfl | (simp_all [poolFits, zeroVal]; done) | (simp_all [poolFits, zeroVal] <;> (first | omega | grind)))

end Go.Proofs.Ytajbgkpjmgmdhaa
