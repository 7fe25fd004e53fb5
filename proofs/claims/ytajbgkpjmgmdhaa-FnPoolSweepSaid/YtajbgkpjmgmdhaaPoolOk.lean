/- PoolOk: the program's and the reference's. -/
import Derived.Test.YtajbgkpjmgmdhaaPool
namespace Go.Proofs.Ytajbgkpjmgmdhaa
open Go.RowKit
set_option linter.unusedVariables false
set_option linter.unusedSimpArgs false
attribute [local go_sem] Ext.cell

/-- The first k free places are right: places, each once, of zero cells. -/
def FreeOk (p : GPool) (k : Nat) : Prop := ∀ (i : Nat) (f : Int), i < k → p.free[i]? = some f → ∃ j : Nat, f = j ∧ j < p.cells.length ∧ f ∉ p.free.take i ∧ ∃ c, p.cells[j]? = some c ∧ zeroCell c = true
def CellsOk (p : GPool) (k : Nat) : Prop := ∀ (i : Nat) c, i < k → p.cells[i]? = some c → (i : Int) ∈ p.free ∨ poolFits p c = true
def PoolOk (p : GPool) : Prop := p.cells.length ≤ 4000 ∧ p.free.length ≤ p.cells.length ∧ FreeOk p p.free.length ∧ CellsOk p p.cells.length
open Classical in
noncomputable def poolOk (p : GPool) : Bool := decide (PoolOk p)
theorem poolOk_yes {p : GPool} (h : PoolOk p) : poolOk p = true := by unfold poolOk; simpa using h
theorem poolOk_no {p : GPool} (h : ¬ PoolOk p) : poolOk p = false := by unfold poolOk; simpa using h
theorem FreeOk.zero (p : GPool) : FreeOk p 0 := fun i f h => absurd h (Nat.not_lt_zero _)
theorem CellsOk.zero (p : GPool) : CellsOk p 0 := fun i f h => absurd h (Nat.not_lt_zero _)
theorem FreeOk.succ {p : GPool} {k : Nat} (h : FreeOk p k) {f : Int} {j : Nat} {c : GCell} (hf : p.free[k]? = some f) (h1 : f = j) (h2 : j < p.cells.length) (h3 : f ∉ p.free.take k) (h4 : p.cells[j]? = some c) (h5 : zeroCell c = true) : FreeOk p (k + 1) := by
  intro i g hi hg
  rcases Nat.lt_or_ge i k with h' | h'
  · exact h i g h' hg
  · obtain rfl : i = k := by omega
    obtain rfl : f = g := Option.some.inj (hf.symm.trans hg)
    exact ⟨j, h1, h2, h3, c, h4, h5⟩
theorem CellsOk.succ {p : GPool} {k : Nat} (h : CellsOk p k) {c : GCell} (hf : p.cells[k]? = some c) (h1 : (k : Int) ∈ p.free ∨ poolFits p c = true) : CellsOk p (k + 1) := by
  intro i g hi hg
  rcases Nat.lt_or_ge i k with h' | h'
  · exact h i g h' hg
  · obtain rfl : i = k := by omega
    obtain rfl : c = g := Option.some.inj (hf.symm.trans hg)
    exact h1
theorem poolOk_bad_free {p : GPool} {k : Nat} {f : Int} (hk : k < p.free.length) (hf : p.free[k]? = some f)
    (h : ∀ j : Nat, f = j → j < p.cells.length → f ∉ p.free.take k → ∀ c, p.cells[j]? = some c → zeroCell c = false) : poolOk p = false := by
  refine poolOk_no fun ⟨_, _, h3, _⟩ => ?_
  obtain ⟨j, h1, h2, h4, c, h5, h6⟩ := h3 k f hk hf
  rw [h j h1 h2 h4 c h5] at h6
  cases h6
theorem poolOk_bad_cell {p : GPool} {k : Nat} {c : GCell} (hk : k < p.cells.length) (hf : p.cells[k]? = some c) (h1 : (k : Int) ∉ p.free) (h2 : poolFits p c = false) : poolOk p = false := by
  refine poolOk_no fun ⟨_, _, _, h4⟩ => ?_
  rcases h4 k c hk hf with h | h
  · exact h1 h
  · rw [h2] at h; cases h

theorem info_Bool : (Try.prog.info? 4).map (fun i => (i.zero, i.size, i.bytes)) = some (some (.bool false), 1, 1) := by kernel_rfl

/-- What the array of marks holds. -/
def Met (w : World) (g n : Nat) (l : List Int) : Prop := ∀ j, j < n → w.cell? ⟨g, j, none⟩ = some (.bool (l.contains (j : Int))) ∧ w.frozen? ⟨g, j, none⟩ = false
theorem Met.below {w w' : World} {g n : Nat} {l : List Int} (h : Met w g n l) (hb : Below w.heap.size w w') : Met w' g n l := fun j hj =>
  ⟨cell_below hb (h j hj).1, by rw [hb.frozen (p := ⟨g, j, none⟩) (World.block_lt_of_cell? w _ (h j hj).1), (h j hj).2]⟩
theorem Met.made {w : World} {g n : Nat} {l : List Int} (hA : Arr w g (n * 1)) (hr : ∀ k, k < n → RowAt w g (k * 1) (Value.bool false).cells.toList) : Met w g n (l.take 0) := fun j hj => by
  obtain ⟨c, e1, e2⟩ := hA j (by omega)
  have e3 := hr j hj 0 (.bool false) rfl
  rw [Nat.mul_one, Nat.add_zero] at e3
  exact ⟨by simpa using e3, e2⟩
theorem Met.set {w : World} {g n : Nat} {l : List Int} (h : Met w g n l) {k : Nat} (hk : k < n) : Met (w.setCell ⟨g, k, none⟩ (.bool true)) g n (l ++ [(k : Int)]) := fun j hj => by
  refine ⟨?_, by rw [frozen_setCell]; exact (h j hj).2⟩
  by_cases e : k = j
  · subst e
    rw [cell_setCell_eq _ _ _ _ (h k hk).1]
    simp
  · rw [cell_setCell_ne _ _ _ _ _ e, (h j hj).1]
    have : ¬ ((j : Int) = (k : Int)) := by omega
    simp [this]
theorem Met.sl {w : World} {g n cap : Nat} {l : List Int} (h : Met w g n l) (hc : n ≤ cap) (hm : cap ≤ 9223372036854775807) : Sl BoolR 1 0 w (.slice (some ⟨g, 0, none⟩) n cap) (marksOf n l) := by
  refine ⟨_, cap, by rw [marksOf_length], by rw [marksOf_length]; exact hc, hm, fun _ => ⟨g, 0, Nat.zero_le _, rfl, fun i x hx => ?_⟩⟩
  have hi : i < n := by have := (List.getElem?_eq_some_iff.1 hx).1; rwa [marksOf_length] at this
  refine ⟨[.bool x], rfl, fun j c hj => ?_⟩
  cases j with
  | zero =>
    simp at hj
    subst hj
    rw [marksOf_get hx]
    simpa using (h i hi).1
  | succ j => simp at hj

set_option maxRecDepth 100000 in
set_option maxHeartbeats 4000000 in
theorem impl_PoolOk_c (p : GPool) (r : List Value) (lo : Nat) (hbulk : p.bulk ≤ 1048576) (w : World) (hp : GPool.R lo w r p) :
    Calls Try.prog 11 #[.agg r.toArray] w fun e w' => e = .returned (.bool (poolOk p)) ∧ Below w.heap.size w w' := by
  have Hp := hp
  obtain ⟨u0, u1, rfl, -, a0, a1⟩ := hp
  obtain ⟨pa, pc, rfl, l0, m0, h0⟩ := a0
  obtain ⟨qa, qc, rfl, l1, m1, h1⟩ := a1
  have n0 := length_le_bulkS (f := GCell.bulk) GCell.bulk_nonneg p.cells
  have n1 := length_nonneg p.free
  simp only [GPool.bulk] at hbulk
  have hlen : p.cells.length ≤ 1048576 := by omega
  have fitsc := fun (c : GCell) (uf : Value) W (hW : Below w.heap.size w W) (hf : Sl BoolR 1 0 W uf (marksOf p.cells.length p.free)) => fits_c p _ lo c uf 0 hlen W (GPool.good.below Hp hW) hf
  obtain ⟨n, hn⟩ : ∃ n, n = p.cells.length := ⟨_, rfl⟩
  obtain ⟨m, hm⟩ : ∃ n, n = p.free.length := ⟨_, rfl⟩
  rw [← hn] at hlen l0
  simp only [← hn, ← hm] at fitsc ⊢
  rw [← hm] at l1
  clear n0 n1 hbulk Hp
  replace hn := Lib.hid hn; replace hm := Lib.hid hm; replace fitsc := Lib.hid fitsc
  by_cases hbig : 4000 < n
  · go_enter Try.func11, Try.ntmps11
    go_wp2
    all_goals (go_returns; refine ⟨?_, by go_grown⟩; rw [poolOk_no (fun h => by have := h.1; have := hn.out; omega)]; rfl)
  by_cases hmn : n < m
  · go_enter Try.func11, Try.ntmps11
    go_wp2
    all_goals (go_returns; refine ⟨?_, by go_grown⟩; rw [poolOk_no (fun h => by have := h.2.1; have := hn.out; have := hm.out; omega)]; rfl)
  go_enter Try.func11, Try.ntmps11
  go_upto_region 1 with fail
  have B : RowAt (w.alloc (.cells #[.slice pa n pc, .slice qa m qc] 26)) (w.heap.size) 0 [.slice pa n pc, .slice qa m qc] := RowAt.box w #[.slice pa n pc, .slice qa m qc] 26
  have hw : Below w.heap.size w (w.alloc (.cells #[.slice pa n pc, .slice qa m qc] 26)) := by go_grown
  generalize (w.alloc (.cells #[.slice pa n pc, .slice qa m qc] 26)) = w0 at *
  obtain ⟨b_0, b_1⟩ := B.box2; have hsB := World.block_lt_of_cell? _ _ b_0; dsimp only at hsB
  obtain ⟨i0, hi, hi0, hi1, hi2⟩ := info_parts info_Bool
  replace hi := Lib.hid hi; replace hi0 := Lib.hid hi0; replace hi1 := Lib.hid hi1; replace hi2 := Lib.hid hi2
  have hg : w.heap.size < w0.heap.size := hsB
  go_wp2_with (at_make; refine wpList_makeN rfl _ _ _ rfl 4 i0 _ 1 Try.underlying75 hi.out hi0.out hi1.out rfl n rfl rfl (by rw [hi2.out]; omega) (by omega) ?_; intro w1 hb hz1 hA hr; have M0 : Met w1 w0.heap.size n (p.free.take 0) := (Met.made hA hr); clear hA hr; have hw := hw.trans (hb.mono hw.size); have B := B.below hb; obtain ⟨b_0, b_1⟩ := B.box2; have hsB := World.block_lt_of_cell? _ _ b_0; dsimp only at hsB; clear hb)
  generalize w0.heap.size = g at *
  go_loopw [28] (fun i wr => ∃ k : Nat, k ≤ m ∧ i = .int .i64 k ∧ Below w.heap.size w wr ∧ RowAt wr w.heap.size 0 [.slice pa n pc, .slice qa m qc] ∧ g < wr.heap.size ∧ FreeOk p k ∧ Met wr g n (p.free.take k)) (fun i _ => m - (intOf i).toNat)
  case atStart => exact ⟨0, by omega, rfl, hw, B, by omega, FreeOk.zero p, M0⟩
  case round =>
    clear hw B M0 hz1 b_0 b_1 hsB
    obtain ⟨k, hk, rfl, hw, B, hgr, hF, hM⟩ := hrel
    obtain ⟨b_0, b_1⟩ := B.box2; have hsB := World.block_lt_of_cell? _ _ b_0; dsimp only at hsB
    by_cases hlt : k < m
    · obtain ⟨b1, o1, f, s1, _, rfl, P1, ⟨rfl, hf64⟩, r1⟩ := (h1.below IntR.good hw).get hm hlt
      rw [Nat.mul_one] at r1
      have R1 := r1.cells1
      have hkm : k < p.free.length := by have := hm.out; omega
      by_cases hin : 0 ≤ f ∧ f ≤ (n : Int) - 1
      · obtain ⟨j, rfl⟩ : ∃ j : Nat, f = j := ⟨f.toNat, by omega⟩
        have hj : j < n := by omega
        have M1 := (hM j hj).1
        have M2 := (hM j hj).2
        have hd : decide (0 ≤ (j : Int) ∧ (j : Int) ≤ (n : Int) - 1) = true := by simpa using hin
        generalize hmem : (p.free.take k).contains (j : Int) = d at M1
        replace hmem := Lib.hid hmem
        cases d
        · obtain ⟨b2, o2, c, s2, _, rfl, P2, ⟨rfl, -⟩, r2⟩ := (h0.below GCell.good hw).get hn hj
          obtain ⟨e_0, e_1, e_2, e_3, e_4, e_5, e_6, e_7, e_8⟩ := r2.cells9
          clear r2
          go_wp2_with (go_at_call 45; ((with_reducible refine (within_c _ _ _ _).mono ?_); rintro e w1 ⟨rfl, rfl⟩))
          · go_roundw
            case rel =>
              have hz : zeroCell c = true := by simp [zeroCell, zeroVal, *]
              exact ⟨k + 1, by omega, by go_num, hw.setCell (by dsimp only; omega) _, B.set_other (by omega) _, by simpa [World.setCell] using hgr,
                hF.succ P1.out rfl (by have := hn.out; omega) (by simpa using hmem.out) P2.out hz, by rw [take_snoc' P1.out]; exact hM.set hj⟩
            case measure => simp [intOf]; omega
          all_goals
            have hz : zeroCell c = false := by simp [zeroCell, zeroVal, *]
            go_returns
            refine ⟨?_, hw⟩
            rw [poolOk_bad_free hkm P1.out (fun j' e1 _ _ c' e4 => by
              obtain rfl : j = j' := by omega
              obtain rfl := Option.some.inj (P2.out.symm.trans e4)
              exact hz)]; rfl
        · go_wp2_with (go_at_call 45; ((with_reducible refine (within_c _ _ _ _).mono ?_); rintro e w1 ⟨rfl, rfl⟩))
          go_returns
          refine ⟨?_, hw⟩
          rw [poolOk_bad_free hkm P1.out (fun j' _ _ h3 => absurd (by simpa using hmem.out) h3)]; rfl
      · have hd : decide (0 ≤ f ∧ f ≤ (n : Int) - 1) = false := by simpa using hin
        replace hin := Lib.hid hin
        go_wp2_with (go_at_call 45; ((with_reducible refine (within_c _ _ _ _).mono ?_); rintro e w1 ⟨rfl, rfl⟩))
        go_returns
        refine ⟨?_, hw⟩
        rw [poolOk_bad_free hkm P1.out (fun j e1 e2 => absurd ⟨by omega, by have := hn.out; omega⟩ hin.out)]; rfl
    · obtain rfl : m = k := by omega
      rw [take_full hm] at hM
      go_wp2_with fail
      go_loopw [61] (fun i wr => ∃ k : Nat, k ≤ n ∧ i = .int .i64 k ∧ Below w.heap.size w wr ∧ RowAt wr w.heap.size 0 [.slice pa n pc, .slice qa m qc] ∧ g < wr.heap.size ∧ CellsOk p k ∧ Met wr g n p.free) (fun i _ => n - (intOf i).toNat)
      case atStart => exact ⟨0, by omega, rfl, hw, B, hgr, CellsOk.zero p, hM⟩
      case round =>
        clear hw B hgr hM b_0 b_1 hsB
        obtain ⟨i, hin, rfl, hw, B, hgr, hC, hM⟩ := hrel
        by_cases hlt : i < n
        · obtain ⟨b2, o2, c, s2, _, rfl, P2, ⟨rfl, -⟩, r2⟩ := (h0.below GCell.good hw).get hn hlt
          have hin' : i < p.cells.length := by have := hn.out; omega
          obtain ⟨e_0, e_1, e_2, e_3, e_4, e_5, e_6, e_7, e_8⟩ := r2.cells9
          clear r2
          obtain ⟨b_0, b_1⟩ := B.box2; have hsB := World.block_lt_of_cell? _ _ b_0; dsimp only at hsB
          go_upto_region 14 with fail
          have hz := hw.size
          have B' := B.below (show Below wr.heap.size wr (wr.alloc (.cells #[.int .i64 c.kind, .int .i64 c.n, .string c.s, .int .i64 c.a.kind, .int .i64 c.a.n, .string c.a.s, .int .i64 c.b.kind, .int .i64 c.b.n, .string c.b.s] 30)) by go_grown)
          have D : RowAt (wr.alloc (.cells #[.int .i64 c.kind, .int .i64 c.n, .string c.s, .int .i64 c.a.kind, .int .i64 c.a.n, .string c.a.s, .int .i64 c.b.kind, .int .i64 c.b.n, .string c.b.s] 30)) wr.heap.size 0 [.int .i64 c.kind, .int .i64 c.n, .string c.s, .int .i64 c.a.kind, .int .i64 c.a.n, .string c.a.s, .int .i64 c.b.kind, .int .i64 c.b.n, .string c.b.s] := RowAt.box _ _ _
          have hw' : Below w.heap.size w (wr.alloc (.cells #[.int .i64 c.kind, .int .i64 c.n, .string c.s, .int .i64 c.a.kind, .int .i64 c.a.n, .string c.a.s, .int .i64 c.b.kind, .int .i64 c.b.n, .string c.b.s] 30)) := by go_grown
          have hM' := hM.below (show Below wr.heap.size wr (wr.alloc (.cells #[.int .i64 c.kind, .int .i64 c.n, .string c.s, .int .i64 c.a.kind, .int .i64 c.a.n, .string c.a.s, .int .i64 c.b.kind, .int .i64 c.b.n, .string c.b.s] 30)) by go_grown)
          have hgr' : g < (wr.alloc (.cells #[.int .i64 c.kind, .int .i64 c.n, .string c.s, .int .i64 c.a.kind, .int .i64 c.a.n, .string c.a.s, .int .i64 c.b.kind, .int .i64 c.b.n, .string c.b.s] 30)).heap.size := by simp; omega
          generalize wr.alloc (.cells #[.int .i64 c.kind, .int .i64 c.n, .string c.s, .int .i64 c.a.kind, .int .i64 c.a.n, .string c.a.s, .int .i64 c.b.kind, .int .i64 c.b.n, .string c.b.s] 30) = w0 at *
          clear hw B hgr hM b_0 b_1 hsB e_0 e_1 e_2 e_3 e_4 e_5 e_6 e_7 e_8 hz
          have hw := hw'; have B := B'; clear hw' B'
          obtain ⟨b_0, b_1⟩ := B.box2; have hsB := World.block_lt_of_cell? _ _ b_0; dsimp only at hsB; obtain ⟨d_0, d_1, d_2, d_3, d_4, d_5, d_6, d_7, d_8⟩ := D.box9; have hsD := World.block_lt_of_cell? _ _ d_0; dsimp only at hsD
          have M1 := (hM' i hlt).1
          cases hmem : p.free.contains (i : Int)
          · rw [hmem] at M1
            have fc := fitsc.out c (.slice (some ⟨g, 0, none⟩) n n) w0 hw (hM'.sl (Nat.le_refl _) (by omega))
            generalize hfit : poolFits p c = d at fc
            replace hfit := Lib.hid hfit; replace fc := Lib.hid fc; replace hmem := Lib.hid hmem
            cases d
            · go_wp2_with (go_at_call 39; ((with_reducible refine (fc.out).mono ?_); rintro e w1 ⟨rfl, hb⟩; have hw := hw.trans (hb.mono hw.size); have B := B.below hb; obtain ⟨b_0, b_1⟩ := B.box2; have hsB := World.block_lt_of_cell? _ _ b_0; dsimp only at hsB; have D := D.below hb; obtain ⟨d_0, d_1, d_2, d_3, d_4, d_5, d_6, d_7, d_8⟩ := D.box9; have hsD := World.block_lt_of_cell? _ _ d_0; dsimp only at hsD; clear hb))
              go_returns
              refine ⟨?_, hw⟩
              rw [poolOk_bad_cell hin' P2.out (by simpa using hmem.out) hfit.out]; rfl
            · go_wp2_with (go_at_call 39; ((with_reducible refine (fc.out).mono ?_); rintro e w1 ⟨rfl, hb⟩; have hM2 := hM'.below hb; have hz := hb.size; have hw := hw.trans (hb.mono hw.size); have B := B.below hb; obtain ⟨b_0, b_1⟩ := B.box2; have hsB := World.block_lt_of_cell? _ _ b_0; dsimp only at hsB; have D := D.below hb; obtain ⟨d_0, d_1, d_2, d_3, d_4, d_5, d_6, d_7, d_8⟩ := D.box9; have hsD := World.block_lt_of_cell? _ _ d_0; dsimp only at hsD; clear hb))
              go_roundw
              case rel => exact ⟨i + 1, by omega, by go_num, hw, B, by omega, hC.succ P2.out (.inr hfit.out), hM2⟩
              case measure => simp [intOf]; omega
          · rw [hmem] at M1
            replace hmem := Lib.hid hmem
            go_wp2
            go_roundw
            case rel => exact ⟨i + 1, by omega, by go_num, hw, B, hgr', hC.succ P2.out (.inl (by simpa using hmem.out)), hM'⟩
            case measure => simp [intOf]; omega
        · obtain rfl : n = i := by omega
          go_wp2
          go_returns
          refine ⟨?_, hw⟩
          have e1 := hn.out; have e2 := hm.out
          rw [poolOk_yes ⟨by omega, by omega, e2 ▸ hF, e1 ▸ hC⟩]; rfl

end Go.Proofs.Ytajbgkpjmgmdhaa
