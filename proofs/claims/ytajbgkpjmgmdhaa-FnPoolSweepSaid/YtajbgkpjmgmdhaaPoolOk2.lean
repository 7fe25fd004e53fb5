/- PoolOk: the reference's. -/
import Derived.Test.YtajbgkpjmgmdhaaPoolOk
namespace Go.Proofs.Ytajbgkpjmgmdhaa
open Go.RowKit
set_option linter.unusedVariables false
set_option linter.unusedSimpArgs false
attribute [local go_sem] Ext.cell

theorem cell_cases (c : GCell) : (¬ c.kind = 0) ∨ (c.kind = 0 ∧ ¬ c.n = 0) ∨ (c.kind = 0 ∧ c.n = 0 ∧ ¬ c.s.toList = []) ∨ (c.kind = 0 ∧ c.n = 0 ∧ c.s.toList = [] ∧ ¬ c.a.kind = 0) ∨ (c.kind = 0 ∧ c.n = 0 ∧ c.s.toList = [] ∧ c.a.kind = 0 ∧ ¬ c.a.n = 0) ∨ (c.kind = 0 ∧ c.n = 0 ∧ c.s.toList = [] ∧ c.a.kind = 0 ∧ c.a.n = 0 ∧ ¬ c.a.s.toList = []) ∨ (c.kind = 0 ∧ c.n = 0 ∧ c.s.toList = [] ∧ c.a.kind = 0 ∧ c.a.n = 0 ∧ c.a.s.toList = [] ∧ ¬ c.b.kind = 0) ∨ (c.kind = 0 ∧ c.n = 0 ∧ c.s.toList = [] ∧ c.a.kind = 0 ∧ c.a.n = 0 ∧ c.a.s.toList = [] ∧ c.b.kind = 0 ∧ ¬ c.b.n = 0) ∨ (c.kind = 0 ∧ c.n = 0 ∧ c.s.toList = [] ∧ c.a.kind = 0 ∧ c.a.n = 0 ∧ c.a.s.toList = [] ∧ c.b.kind = 0 ∧ c.b.n = 0 ∧ ¬ c.b.s.toList = []) ∨ (c.kind = 0 ∧ c.n = 0 ∧ c.s.toList = [] ∧ c.a.kind = 0 ∧ c.a.n = 0 ∧ c.a.s.toList = [] ∧ c.b.kind = 0 ∧ c.b.n = 0 ∧ c.b.s.toList = []) := by
  by_cases z0 : c.kind = 0
  rotate_left
  · simp [*]
  by_cases z1 : c.n = 0
  rotate_left
  · simp [*]
  by_cases z2 : c.s.toList = []
  rotate_left
  · simp [*]
  by_cases z3 : c.a.kind = 0
  rotate_left
  · simp [*]
  by_cases z4 : c.a.n = 0
  rotate_left
  · simp [*]
  by_cases z5 : c.a.s.toList = []
  rotate_left
  · simp [*]
  by_cases z6 : c.b.kind = 0
  rotate_left
  · simp [*]
  by_cases z7 : c.b.n = 0
  rotate_left
  · simp [*]
  by_cases z8 : c.b.s.toList = []
  rotate_left
  · simp [*]
  simp [*]

set_option maxRecDepth 100000 in
set_option maxHeartbeats 4000000 in
theorem spec_PoolOk_c (p : GPool) (r : List Value) (lo : Nat) (hbulk : p.bulk ≤ 1048576) (w : World) (hp : GPool.R lo w r p) :
    Calls Try.prog 42 #[.agg r.toArray] w fun e w' => e = .returned (.bool (poolOk p)) ∧ Below w.heap.size w w' := by
  have Hp := hp
  obtain ⟨u0, u1, rfl, -, a0, a1⟩ := hp
  obtain ⟨pa, pc, rfl, l0, m0, h0⟩ := a0
  obtain ⟨qa, qc, rfl, l1, m1, h1⟩ := a1
  have n0 := length_le_bulkS (f := GCell.bulk) GCell.bulk_nonneg p.cells
  have n1 := length_nonneg p.free
  simp only [GPool.bulk] at hbulk
  have hlen : p.cells.length ≤ 1048576 := by omega
  have fitsc := fun (c : GCell) (hc : c.wf) W (hW : Below w.heap.size w W) => l20Cell_c p _ lo c hc hlen W (GPool.good.below Hp hW)
  have hasc := fun (f : Int) W (hW : Below w.heap.size w W) => l05Has_c p.free _ lo f W ((h1.below IntR.good hW).sl rfl l1 m1)
  obtain ⟨n, hn⟩ : ∃ n, n = p.cells.length := ⟨_, rfl⟩
  obtain ⟨m, hm⟩ : ∃ n, n = p.free.length := ⟨_, rfl⟩
  rw [← hn] at hlen l0
  simp only [← hn, ← hm] at fitsc hasc ⊢
  rw [← hm] at l1
  clear n0 n1 hbulk Hp
  replace hn := Lib.hid hn; replace hm := Lib.hid hm; replace fitsc := Lib.hid fitsc; replace hasc := Lib.hid hasc
  by_cases hbig : 4000 < n
  · go_enter Try.func42, Try.ntmps42
    go_wp2
    all_goals (go_returns; refine ⟨?_, by go_grown⟩; rw [poolOk_no (fun h => by have := h.1; have := hn.out; omega)]; rfl)
  by_cases hmn : n < m
  · go_enter Try.func42, Try.ntmps42
    go_wp2
    all_goals (go_returns; refine ⟨?_, by go_grown⟩; rw [poolOk_no (fun h => by have := h.2.1; have := hn.out; have := hm.out; omega)]; rfl)
  go_enter Try.func42, Try.ntmps42
  go_upto_region 4 with fail
  have B : RowAt (w.alloc (.cells #[.slice pa n pc, .slice qa m qc] 26)) (w.heap.size) 0 [.slice pa n pc, .slice qa m qc] := RowAt.box w #[.slice pa n pc, .slice qa m qc] 26
  have B := B.below (show Below (w.alloc (.cells #[.slice pa n pc, .slice qa m qc] 26)).heap.size (w.alloc (.cells #[.slice pa n pc, .slice qa m qc] 26)) ((w.alloc (.cells #[.slice pa n pc, .slice qa m qc] 26)).alloc (.cells #[.int .i64 0, .int .i64 0, .string ⟨#[]⟩, .int .i64 0, .int .i64 0, .string ⟨#[]⟩, .int .i64 0, .int .i64 0, .string ⟨#[]⟩] 30)) by go_grown)
  have E : RowAt ((w.alloc (.cells #[.slice pa n pc, .slice qa m qc] 26)).alloc (.cells #[.int .i64 0, .int .i64 0, .string ⟨#[]⟩, .int .i64 0, .int .i64 0, .string ⟨#[]⟩, .int .i64 0, .int .i64 0, .string ⟨#[]⟩] 30)) (w.heap.size + 1) 0 [.int .i64 0, .int .i64 0, .string ⟨#[]⟩, .int .i64 0, .int .i64 0, .string ⟨#[]⟩, .int .i64 0, .int .i64 0, .string ⟨#[]⟩] := by have h := RowAt.box (w.alloc (.cells #[.slice pa n pc, .slice qa m qc] 26)) #[.int .i64 0, .int .i64 0, .string ⟨#[]⟩, .int .i64 0, .int .i64 0, .string ⟨#[]⟩, .int .i64 0, .int .i64 0, .string ⟨#[]⟩] 30; simp only [World.size_alloc] at h; exact h
  have hw : Below w.heap.size w ((w.alloc (.cells #[.slice pa n pc, .slice qa m qc] 26)).alloc (.cells #[.int .i64 0, .int .i64 0, .string ⟨#[]⟩, .int .i64 0, .int .i64 0, .string ⟨#[]⟩, .int .i64 0, .int .i64 0, .string ⟨#[]⟩] 30)) := by go_grown
  generalize ((w.alloc (.cells #[.slice pa n pc, .slice qa m qc] 26)).alloc (.cells #[.int .i64 0, .int .i64 0, .string ⟨#[]⟩, .int .i64 0, .int .i64 0, .string ⟨#[]⟩, .int .i64 0, .int .i64 0, .string ⟨#[]⟩] 30)) = w0 at *
  obtain ⟨b_0, b_1⟩ := B.box2; have hsB := World.block_lt_of_cell? _ _ b_0; dsimp only at hsB; obtain ⟨e_0, e_1, e_2, e_3, e_4, e_5, e_6, e_7, e_8⟩ := E.box9; have hsE := World.block_lt_of_cell? _ _ e_0; dsimp only at hsE
  go_wp2_with fail
  go_loopw [25] (fun i wr => ∃ k : Nat, k ≤ m ∧ i = .int .i64 k ∧ Below w.heap.size w wr ∧ RowAt wr w.heap.size 0 [.slice pa n pc, .slice qa m qc] ∧ RowAt wr (w.heap.size + 1) 0 [.int .i64 0, .int .i64 0, .string ⟨#[]⟩, .int .i64 0, .int .i64 0, .string ⟨#[]⟩, .int .i64 0, .int .i64 0, .string ⟨#[]⟩] ∧ FreeOk p k) (fun i _ => m - (intOf i).toNat)
  case atStart => exact ⟨0, by omega, rfl, hw, B, E, FreeOk.zero p⟩
  case round =>
    clear hw B E b_0 b_1 e_0 e_1 e_2 e_3 e_4 e_5 e_6 e_7 e_8 hsB hsE
    obtain ⟨k, hk, rfl, hw, B, E, hF⟩ := hrel
    obtain ⟨b_0, b_1⟩ := B.box2; have hsB := World.block_lt_of_cell? _ _ b_0; dsimp only at hsB; obtain ⟨e_0, e_1, e_2, e_3, e_4, e_5, e_6, e_7, e_8⟩ := E.box9; have hsE := World.block_lt_of_cell? _ _ e_0; dsimp only at hsE
    by_cases hlt : k < m
    · obtain ⟨b1, o1, f, s1, _, rfl, P1, ⟨rfl, hf64⟩, r1⟩ := (h1.below IntR.good hw).get hm hlt
      rw [Nat.mul_one] at r1
      have R1 := r1.cells1
      have hkm : k < p.free.length := by have := hm.out; omega
      by_cases hin : 0 ≤ f ∧ f ≤ (n : Int) - 1
      · obtain ⟨j, rfl⟩ : ∃ j : Nat, f = j := ⟨f.toNat, by omega⟩
        have hj : j < n := by omega
        have c2 := fun W (hW : Below wr.heap.size wr W) => l05Has_c (p.free.take k) _ lo (j : Int) W ((((h1.below IntR.good hw).below IntR.good hW).take k).sl (n := k) (cap := qc) (by simp; omega) (by omega) m1)
        generalize hmem : (p.free.take k).contains (j : Int) = d at c2
        replace hmem := Lib.hid hmem; replace c2 := Lib.hid c2
        obtain ⟨b2, o2, c, s2, _, rfl, P2, ⟨rfl, -⟩, r2⟩ := (h0.below GCell.good hw).get hn hj
        obtain ⟨g_0, g_1, g_2, g_3, g_4, g_5, g_6, g_7, g_8⟩ := r2.cells9
        have hb2 := World.block_lt_of_cell? _ _ g_0
        dsimp only at hb2
        clear r2
        have j0 : decide ((j : Int) < 0) = false := by simp
        have j1 : decide ((n : Int) ≤ (j : Int)) = false := by simp; omega
        have j2 : decide (n ≤ j) = false := by simp; omega
        go_upto_region 7 with fail
        cases d
        · rcases cell_cases c with z0 | ⟨z0, z1⟩ | ⟨z0, z1, z2⟩ | ⟨z0, z1, z2, z3⟩ | ⟨z0, z1, z2, z3, z4⟩ | ⟨z0, z1, z2, z3, z4, z5⟩ | ⟨z0, z1, z2, z3, z4, z5, z6⟩ | ⟨z0, z1, z2, z3, z4, z5, z6, z7⟩ | ⟨z0, z1, z2, z3, z4, z5, z6, z7, z8⟩ | ⟨z0, z1, z2, z3, z4, z5, z6, z7, z8⟩
          all_goals (refine wp_region_ext_lit (by kernel_rfl) (by kernel_rfl) ?_; (repeat (any_goals (first | go_big_quiet_step ((first | (go_at_call 61; exact Calls.ext (c2.out _ (Subtype.property _))))) | quiet_step ((first | (go_at_call 61; exact Calls.ext (c2.out _ (Subtype.property _))))) | (refine wpQuiet_step (fun K hK => ?_); go_simp; split <;> (refine hK _ ?_; clear hK K))))); all_goals (refine wpQuiet_nil ?_; rintro w1 ⟨⟨w2, hb⟩, rfl⟩; have hw := hw.trans (hb.mono hw.size); have B := B.below hb; obtain ⟨b_0, b_1⟩ := B.box2; have hsB := World.block_lt_of_cell? _ _ b_0; dsimp only at hsB; have E := E.below hb; obtain ⟨e_0, e_1, e_2, e_3, e_4, e_5, e_6, e_7, e_8⟩ := E.box9; have hsE := World.block_lt_of_cell? _ _ e_0; dsimp only at hsE; clear hb))
          all_goals go_wp2
          all_goals first
            | (have hz : zeroCell c = false := by simp [zeroCell, zeroVal, *]
               go_returns
               refine ⟨?_, hw⟩
               rw [poolOk_bad_free hkm P1.out (fun j' e1 _ _ c' e4 => by
                 obtain rfl : j = j' := by omega
                 obtain rfl := Option.some.inj (P2.out.symm.trans e4)
                 exact hz)]; rfl)
            | (have hz : zeroCell c = true := by simp [zeroCell, zeroVal, *]
               go_roundw
               case rel => exact ⟨k + 1, by omega, by go_num, hw, B, E, hF.succ P1.out rfl (by have := hn.out; omega) (by simpa using hmem.out) P2.out hz⟩
               case measure => simp [intOf]; omega)
        · (refine wp_region_ext_lit (by kernel_rfl) (by kernel_rfl) ?_; (repeat (any_goals (first | go_big_quiet_step ((first | (go_at_call 61; exact Calls.ext (c2.out _ (Subtype.property _))))) | quiet_step ((first | (go_at_call 61; exact Calls.ext (c2.out _ (Subtype.property _))))) | (refine wpQuiet_step (fun K hK => ?_); go_simp; split <;> (refine hK _ ?_; clear hK K))))); all_goals (refine wpQuiet_nil ?_; rintro w1 ⟨⟨w2, hb⟩, rfl⟩; have hw := hw.trans (hb.mono hw.size); have B := B.below hb; obtain ⟨b_0, b_1⟩ := B.box2; have hsB := World.block_lt_of_cell? _ _ b_0; dsimp only at hsB; have E := E.below hb; obtain ⟨e_0, e_1, e_2, e_3, e_4, e_5, e_6, e_7, e_8⟩ := E.box9; have hsE := World.block_lt_of_cell? _ _ e_0; dsimp only at hsE; clear hb))
          all_goals go_wp2
          all_goals
            go_returns
            refine ⟨?_, hw⟩
            rw [poolOk_bad_free hkm P1.out (fun j' _ _ h3 => absurd (by simpa using hmem.out) h3)]; rfl
      · have hd : (f < 0) ∨ (n : Int) ≤ f := by omega
        replace hin := Lib.hid hin
        go_upto_region 7 with fail
        rcases hd with hd | hd
        all_goals (refine wp_region_ext_lit (by kernel_rfl) (by kernel_rfl) ?_; (repeat (any_goals (first | go_big_quiet_step ((first | fail)) | quiet_step ((first | fail)) | (refine wpQuiet_step (fun K hK => ?_); go_simp; split <;> (refine hK _ ?_; clear hK K))))); all_goals (refine wpQuiet_nil ?_; rintro w1 ⟨⟨w2, hb⟩, rfl⟩; have hw := hw.trans (hb.mono hw.size); have B := B.below hb; obtain ⟨b_0, b_1⟩ := B.box2; have hsB := World.block_lt_of_cell? _ _ b_0; dsimp only at hsB; have E := E.below hb; obtain ⟨e_0, e_1, e_2, e_3, e_4, e_5, e_6, e_7, e_8⟩ := E.box9; have hsE := World.block_lt_of_cell? _ _ e_0; dsimp only at hsE; clear hb))
        all_goals go_wp2
        all_goals
          go_returns
          refine ⟨?_, hw⟩
          rw [poolOk_bad_free hkm P1.out (fun j e1 e2 => absurd ⟨by omega, by have := hn.out; omega⟩ hin.out)]; rfl
    · obtain rfl : m = k := by omega
      go_wp2_with fail
      go_loopw [60] (fun i wr => ∃ k : Nat, k ≤ n ∧ i = .int .i64 k ∧ Below w.heap.size w wr ∧ RowAt wr w.heap.size 0 [.slice pa n pc, .slice qa m qc] ∧ RowAt wr (w.heap.size + 1) 0 [.int .i64 0, .int .i64 0, .string ⟨#[]⟩, .int .i64 0, .int .i64 0, .string ⟨#[]⟩, .int .i64 0, .int .i64 0, .string ⟨#[]⟩] ∧ CellsOk p k) (fun i _ => n - (intOf i).toNat)
      case atStart => exact ⟨0, by omega, rfl, hw, B, E, CellsOk.zero p⟩
      case round =>
        clear hw B E b_0 b_1 e_0 e_1 e_2 e_3 e_4 e_5 e_6 e_7 e_8 hsB hsE
        obtain ⟨i, hin, rfl, hw, B, E, hC⟩ := hrel
        by_cases hlt : i < n
        · obtain ⟨b2, o2, c, s2, _, rfl, P2, ⟨rfl, hcw⟩, r2⟩ := (h0.below GCell.good hw).get hn hlt
          have hin' : i < p.cells.length := by have := hn.out; omega
          obtain ⟨e_0, e_1, e_2, e_3, e_4, e_5, e_6, e_7, e_8⟩ := r2.cells9
          clear r2
          obtain ⟨b_0, b_1⟩ := B.box2; have hsB := World.block_lt_of_cell? _ _ b_0; dsimp only at hsB
          go_upto_region 13 with fail
          have hz := hw.size
          have B' := B.below (show Below wr.heap.size wr (wr.alloc (.cells #[.int .i64 c.kind, .int .i64 c.n, .string c.s, .int .i64 c.a.kind, .int .i64 c.a.n, .string c.a.s, .int .i64 c.b.kind, .int .i64 c.b.n, .string c.b.s] 30)) by go_grown)
          have E' := E.below (show Below wr.heap.size wr (wr.alloc (.cells #[.int .i64 c.kind, .int .i64 c.n, .string c.s, .int .i64 c.a.kind, .int .i64 c.a.n, .string c.a.s, .int .i64 c.b.kind, .int .i64 c.b.n, .string c.b.s] 30)) by go_grown)
          have D : RowAt (wr.alloc (.cells #[.int .i64 c.kind, .int .i64 c.n, .string c.s, .int .i64 c.a.kind, .int .i64 c.a.n, .string c.a.s, .int .i64 c.b.kind, .int .i64 c.b.n, .string c.b.s] 30)) wr.heap.size 0 [.int .i64 c.kind, .int .i64 c.n, .string c.s, .int .i64 c.a.kind, .int .i64 c.a.n, .string c.a.s, .int .i64 c.b.kind, .int .i64 c.b.n, .string c.b.s] := RowAt.box _ _ _
          have hw' : Below w.heap.size w (wr.alloc (.cells #[.int .i64 c.kind, .int .i64 c.n, .string c.s, .int .i64 c.a.kind, .int .i64 c.a.n, .string c.a.s, .int .i64 c.b.kind, .int .i64 c.b.n, .string c.b.s] 30)) := by go_grown
          generalize wr.alloc (.cells #[.int .i64 c.kind, .int .i64 c.n, .string c.s, .int .i64 c.a.kind, .int .i64 c.a.n, .string c.a.s, .int .i64 c.b.kind, .int .i64 c.b.n, .string c.b.s] 30) = w0 at *
          clear hw B E b_0 b_1 hsB e_0 e_1 e_2 e_3 e_4 e_5 e_6 e_7 e_8 hz
          have hw := hw'; have B := B'; have E := E'; clear hw' B' E'
          obtain ⟨b_0, b_1⟩ := B.box2; have hsB := World.block_lt_of_cell? _ _ b_0; dsimp only at hsB; obtain ⟨d_0, d_1, d_2, d_3, d_4, d_5, d_6, d_7, d_8⟩ := D.box9; have hsD := World.block_lt_of_cell? _ _ d_0; dsimp only at hsD
          have fc := fun W (hW : Below w.heap.size w W) => fitsc.out c hcw W hW
          have c2 := fun W (hW : Below w.heap.size w W) => hasc.out (i : Int) W hW
          generalize hfit : poolFits p c = d at fc
          generalize hmem : p.free.contains (i : Int) = d2 at c2
          replace hfit := Lib.hid hfit; replace fc := Lib.hid fc; replace hmem := Lib.hid hmem; replace c2 := Lib.hid c2
          cases d2
          · cases d
            · go_wp2_with (first | (go_at_call 61; ((with_reducible refine (c2.out _ hw).mono ?_); rintro e w1 ⟨rfl, hb⟩; have E := E.below hb; have hw := hw.trans (hb.mono hw.size); have B := B.below hb; obtain ⟨b_0, b_1⟩ := B.box2; have hsB := World.block_lt_of_cell? _ _ b_0; dsimp only at hsB; have D := D.below hb; obtain ⟨d_0, d_1, d_2, d_3, d_4, d_5, d_6, d_7, d_8⟩ := D.box9; have hsD := World.block_lt_of_cell? _ _ d_0; dsimp only at hsD; clear hb)) | (go_at_call 43; ((with_reducible refine (fc.out _ hw).mono ?_); rintro e w1 ⟨rfl, hb⟩; have hw := hw.trans (hb.mono hw.size); have B := B.below hb; obtain ⟨b_0, b_1⟩ := B.box2; have hsB := World.block_lt_of_cell? _ _ b_0; dsimp only at hsB; have D := D.below hb; obtain ⟨d_0, d_1, d_2, d_3, d_4, d_5, d_6, d_7, d_8⟩ := D.box9; have hsD := World.block_lt_of_cell? _ _ d_0; dsimp only at hsD; clear hb)))
              go_returns
              refine ⟨?_, hw⟩
              rw [poolOk_bad_cell hin' P2.out (by simpa using hmem.out) hfit.out]; rfl
            · go_wp2_with (first | (go_at_call 61; ((with_reducible refine (c2.out _ hw).mono ?_); rintro e w1 ⟨rfl, hb⟩; have E := E.below hb; have hw := hw.trans (hb.mono hw.size); have B := B.below hb; obtain ⟨b_0, b_1⟩ := B.box2; have hsB := World.block_lt_of_cell? _ _ b_0; dsimp only at hsB; have D := D.below hb; obtain ⟨d_0, d_1, d_2, d_3, d_4, d_5, d_6, d_7, d_8⟩ := D.box9; have hsD := World.block_lt_of_cell? _ _ d_0; dsimp only at hsD; clear hb)) | (go_at_call 43; ((with_reducible refine (fc.out _ hw).mono ?_); rintro e w1 ⟨rfl, hb⟩; have E := E.below hb; have hw := hw.trans (hb.mono hw.size); have B := B.below hb; obtain ⟨b_0, b_1⟩ := B.box2; have hsB := World.block_lt_of_cell? _ _ b_0; dsimp only at hsB; have D := D.below hb; obtain ⟨d_0, d_1, d_2, d_3, d_4, d_5, d_6, d_7, d_8⟩ := D.box9; have hsD := World.block_lt_of_cell? _ _ d_0; dsimp only at hsD; clear hb)))
              go_roundw
              case rel => exact ⟨i + 1, by omega, by go_num, hw, B, E, hC.succ P2.out (.inr hfit.out)⟩
              case measure => simp [intOf]; omega
          · go_wp2_with (go_at_call 61; ((with_reducible refine (c2.out _ hw).mono ?_); rintro e w1 ⟨rfl, hb⟩; have E := E.below hb; have hw := hw.trans (hb.mono hw.size); have B := B.below hb; obtain ⟨b_0, b_1⟩ := B.box2; have hsB := World.block_lt_of_cell? _ _ b_0; dsimp only at hsB; have D := D.below hb; obtain ⟨d_0, d_1, d_2, d_3, d_4, d_5, d_6, d_7, d_8⟩ := D.box9; have hsD := World.block_lt_of_cell? _ _ d_0; dsimp only at hsD; clear hb))
            go_roundw
            case rel => exact ⟨i + 1, by omega, by go_num, hw, B, E, hC.succ P2.out (.inl (by simpa using hmem.out))⟩
            case measure => simp [intOf]; omega
        · obtain rfl : n = i := by omega
          go_wp2
          go_returns
          refine ⟨?_, hw⟩
          have e1 := hn.out; have e2 := hm.out
          rw [poolOk_yes ⟨by omega, by omega, e2 ▸ hF, e1 ▸ hC⟩]; rfl

end Go.Proofs.Ytajbgkpjmgmdhaa
