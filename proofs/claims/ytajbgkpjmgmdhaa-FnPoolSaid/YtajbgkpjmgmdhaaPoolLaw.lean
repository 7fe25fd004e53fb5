/- The law FnPool: what is stored in a pool is found there, and one cell less is free. -/
import Derived.Test.YtajbgkpjmgmdhaaDraw9
import Derived.Test.YtajbgkpjmgmdhaaPoolLaw0
namespace Go.Proofs.Ytajbgkpjmgmdhaa
open Go.RowKit
set_option linter.unusedVariables false
set_option linter.unusedSimpArgs false
attribute [local go_sem] Ext.cell

set_option maxHeartbeats 1000000 in
theorem hasInt_c (l : List Int) (u : Value) (lo : Nat) (n : Int) (w : World) (hx : Sl IntR 1 lo w u l) :
    Calls Try.prog 13 #[u, .int .i64 n] w fun e w' => e = .returned (.bool (l.contains n)) ∧ Below w.heap.size w w' := by
  obtain ⟨a, c, rfl, l1, m1, hh⟩ := hx
  obtain ⟨m, hm⟩ : ∃ m, m = l.length := ⟨_, rfl⟩
  rw [← hm] at l1 ⊢
  replace hm := Lib.hid hm
  go_enter Try.func13, Try.ntmps13
  go_wp2_with fail
  go_loopw [9] (fun i wr => ∃ k : Nat, k ≤ m ∧ i = .int .i64 k ∧ Hid (¬ n ∈ l.take k) ∧ Below w.heap.size w wr) (fun i _ => m - (intOf i).toNat)
  case atStart => exact ⟨0, by omega, rfl, by show ¬ _; simp, Below.refl _ _⟩
  case round =>
    obtain ⟨k, hk, rfl, ht, hw⟩ := hrel
    by_cases hlt : k < m
    · obtain ⟨b1, o1, p, s1, _, rfl, P1, ⟨rfl, _⟩, r1⟩ := (hh.below IntR.good hw).get hm hlt
      have R1 : wr.cell? ⟨b1, o1 + k, none⟩ = some (.int .i64 p) := by simpa using r1 0 _ rfl
      clear r1
      cases hd : (p == n)
      · go_wp2
        go_roundw
        case rel =>
          refine ⟨k + 1, by omega, by go_num, ?_, hw⟩
          show ¬ _
          have h1 := ht.out
          rw [take_snoc' P1.out]
          simp at hd ⊢
          exact ⟨h1, fun e => hd e.symm⟩
        case measure => simp [intOf]; omega
      · go_wp2
        go_returns
        refine ⟨?_, hw⟩
        have : n ∈ l := by
          have := List.mem_of_getElem? P1.out
          simp at hd
          exact hd ▸ this
        simp [this]
    · go_wp2
      go_returns
      refine ⟨?_, hw⟩
      obtain rfl : k = m := by omega
      have := ht.out
      rw [take_full hm] at this
      simp [this]


theorem bulk_of {p : GPool} (hl : p.cells.length ≤ 10) (hs : ∀ c ∈ p.cells, SmallC c) (hf : p.free.length ≤ 8001) : p.bulk ≤ 1048576 := by
  have h1 : ∀ l : List GCell, (∀ c ∈ l, SmallC c) → bulkS GCell.bulk l ≤ (l.length : Int) * 16 := by
    intro l
    induction l with
    | nil => intro _; simp [bulkS]
    | cons c l ih =>
      intro hl
      have h2 := ih (fun c hc => hl c (List.mem_cons_of_mem _ hc))
      obtain ⟨_, h3, h4, h5⟩ := hl c (by simp)
      simp only [bulkS, List.length_cons, List.map_cons, List.sum_cons, GCell.bulk] at h2 ⊢
      omega
  have h2 := h1 p.cells hs
  simp only [GPool.bulk]
  omega
namespace fnPool
set_option maxRecDepth 100000 in
set_option maxHeartbeats 16000000 in
theorem law (u : Value) (bs : List UInt8) (w : World) (hx : Sl ByteR 1 0 w u bs) :
    Calls Try.prog 3 #[u] w fun en w' => en = .returned (.bool true) ∧ Below w.heap.size w w' := by
  by_cases hlen : bs.length ≤ 1048576
  rotate_left
  · obtain ⟨ua, uc, rfl⟩ := hx.form
    have hd : decide (1048576 < bs.length) = true := decide_eq_true (by omega)
    go_enter Try.func3, Try.ntmps3
    go_wp2_with fail
    go_returns
    exact ⟨rfl, Below.refl _ _⟩
  have hd : decide (1048576 < bs.length) = false := decide_eq_false (by omega)
  have cD := drawPoolMake_c w u bs hx hlen
  obtain ⟨ua, uc, rfl⟩ := hx.form
  clear hx
  replace cD := Lib.hid cD
  go_enter Try.func3, Try.ntmps3
  go_upto_region 4 with (go_at_call 8; (with_reducible refine (cD.out).mono ?_); rintro e w1 ⟨v0, v1, p, c, B, rfl, PA, hc, hw⟩; obtain ⟨xa, xc, rfl⟩ := PA.cells.form; obtain ⟨ya, yc, rfl⟩ := PA.free.form)
  obtain ⟨w2, hW2⟩ : ∃ W, W = w1.alloc (.cells #[.slice xa p.cells.length xc, .slice ya p.free.length yc] 26) := ⟨_, rfl⟩
  obtain ⟨w3, hW3⟩ : ∃ W, W = w2.alloc (.cells #[.int .i64 c.kind, .int .i64 c.n, .string c.s, .int .i64 c.a.kind, .int .i64 c.a.n, .string c.a.s, .int .i64 c.b.kind, .int .i64 c.b.n, .string c.b.s] 30) := ⟨_, rfl⟩
  have hs2 : w2.heap.size = w1.heap.size + 1 := by rw [hW2]; simp
  rw [← hW2, ← hW3, ← hs2]
  have hb2 : Below w1.heap.size w1 w2 := by rw [hW2]; go_grown
  have hb3 : Below w2.heap.size w2 w3 := by rw [hW3]; go_grown
  have R2 : RowAt w2 w1.heap.size 0 [.slice xa p.cells.length xc, .slice ya p.free.length yc] := by rw [hW2]; exact RowAt.box w1 #[_, _] _
  have R := R2.below hb3
  have X : RowAt w3 w2.heap.size 0 [.int .i64 c.kind, .int .i64 c.n, .string c.s, .int .i64 c.a.kind, .int .i64 c.a.n, .string c.a.s, .int .i64 c.b.kind, .int .i64 c.b.n, .string c.b.s] := by rw [hW3]; exact RowAt.box w2 #[_, _, _, _, _, _, _, _, _] _
  have hw3 : Below w.heap.size w w3 := (hw.trans (hb2.mono hw.size)).trans (hb3.mono (by have := hw.size; omega))
  have P3 := (PA.below hb2).below hb3
  clear hW2 hW3 hs2 R2 hb2 hb3 PA hw
  generalize w1.heap.size = bP at *
  generalize w2.heap.size = bX at *
  have hsz := hw3.size
  obtain ⟨r_0, r_1⟩ := R.box2
  obtain ⟨x_0, x_1, x_2, x_3, x_4, x_5, x_6, x_7, x_8⟩ := X.box9
  have hbP := World.block_lt_of_cell? _ _ r_0; dsimp only at hbP
  have hbX := World.block_lt_of_cell? _ _ x_0; dsimp only at hbX
  have hbulk := P3.bulk
  have PR := P3.R
  have cM := fun W (hW : Below w3.heap.size w3 W) => impl_PoolMake_c p c _ _ w.heap.size 0 hbulk W (GPool.good.below PR hW) (⟨rfl, hc.1⟩ : GCell.R 0 W [.int .i64 c.kind, .int .i64 c.n, .string c.s, .int .i64 c.a.kind, .int .i64 c.a.n, .string c.a.s, .int .i64 c.b.kind, .int .i64 c.b.n, .string c.b.s] c)
  have cN := fun W (hW : Below w3.heap.size w3 W) => spec_PoolMake_c p c _ _ w.heap.size 0 hbulk W (GPool.good.below PR hW) (⟨rfl, hc.1⟩ : GCell.R 0 W [.int .i64 c.kind, .int .i64 c.n, .string c.s, .int .i64 c.a.kind, .int .i64 c.a.n, .string c.a.s, .int .i64 c.b.kind, .int .i64 c.b.n, .string c.b.s] c)
  replace cM := Lib.hid cM; replace cN := Lib.hid cN; replace PR := Lib.hid PR; replace P3 := Lib.hid P3
  go_upto_region 5 with (go_at_call 9; (with_reducible refine (cM.out _ (Below.refl _ _)).mono ?_); rintro e w4 ⟨u0, u1, rfl, OP, hb4⟩; obtain ⟨ua', uc', rfl⟩ := OP.cells.form; obtain ⟨ta, tc, rfl⟩ := OP.free.form)
  obtain ⟨w5, hW5⟩ : ∃ W, W = w4.alloc (.cells #[.slice ua' (pmPool p c).cells.length uc', .slice ta (pmPool p c).free.length tc] 26) := ⟨_, rfl⟩
  rw [← hW5]
  have hb5 : Below w4.heap.size w4 w5 := by rw [hW5]; go_grown
  have Q5 : RowAt w5 w4.heap.size 0 [.slice ua' (pmPool p c).cells.length uc', .slice ta (pmPool p c).free.length tc] := by rw [hW5]; exact RowAt.box w4 #[_, _] _
  have OP5 := OP.below hb5
  have hB5 : Below w3.heap.size w3 w5 := hb4.trans (hb5.mono hb4.size)
  have R5 := R.below hB5; have X5 := X.below hB5
  clear hW5 OP hb5 hb4 r_0 r_1 x_0 x_1 x_2 x_3 x_4 x_5 x_6 x_7 x_8
  generalize w4.heap.size = bQ at *
  obtain ⟨r_0, r_1⟩ := R5.box2
  obtain ⟨x_0, x_1, x_2, x_3, x_4, x_5, x_6, x_7, x_8⟩ := X5.box9
  go_upto_region 6 with (go_at_call 10; (with_reducible refine (cN.out _ hB5).mono ?_); rintro e w6 ⟨u0, u1, rfl, OS, hb6⟩; obtain ⟨va, vc, rfl⟩ := OS.cells.form; obtain ⟨vb, vd, rfl⟩ := OS.free.form)
  obtain ⟨w7, hW7⟩ : ∃ W, W = w6.alloc (.cells #[.slice va (pmPool p c).cells.length vc, .slice vb (pmPool p c).free.length vd] 26) := ⟨_, rfl⟩
  rw [← hW7]
  have hb7 : Below w5.heap.size w5 w7 := hb6.trans (by rw [hW7]; exact Below.alloc (Below.refl _ _) hb6.size _)
  have hB7 : Below w3.heap.size w3 w7 := hB5.trans (hb7.mono hB5.size)
  have R7 := R.below hB7; have X7 := X.below hB7; have Q7 := Q5.below hb7; have OP7 := OP5.below hb7
  have hw7 : Below w.heap.size w w7 := hw3.trans (hB7.mono hsz)
  clear hW7 OS hb6 r_0 r_1 x_0 x_1 x_2 x_3 x_4 x_5 x_6 x_7 x_8 R5 X5 R X Q5 OP5
  obtain ⟨r_0, r_1⟩ := R7.box2
  obtain ⟨x_0, x_1, x_2, x_3, x_4, x_5, x_6, x_7, x_8⟩ := X7.box9
  obtain ⟨q_0, q_1⟩ := Q7.box2
  have hbQ := World.block_lt_of_cell? _ _ q_0; dsimp only at hbQ
  have hbX7 := World.block_lt_of_cell? _ _ x_0; dsimp only at hbX7
  have hbP7 := World.block_lt_of_cell? _ _ r_0; dsimp only at hbP7
  by_cases hcode : pmCode p c = 0
  · obtain ⟨j, ha, hj, hjc, hok, hus, hc1, hc2⟩ := pm_law hcode
    have hi64 : I64 (poolUsed p) ∧ poolUsed p + 1 ≤ 9223372036854775807 := by
      unfold poolUsed
      have := P3.out.len
      have := P3.out.many
      split <;> refine ⟨⟨?_, ?_⟩, ?_⟩ <;> omega
    have hwrap : IntKind.i64.wrap (poolUsed p + 1) = poolUsed p + 1 := IntWalk.i64_in _ ⟨by have := hi64.1.1; omega, hi64.2⟩
    have hd0 : (pmCode p c != 0) = false := by simp [hcode]
    have PB : (pmPool p c).bulk ≤ 1048576 := by
      obtain ⟨-, -, m, j', h1, h2, h3, h4, h5⟩ := pm_facts hcode
      rw [h5]
      refine bulk_of (by simpa using P3.out.len) (fun x hx => ?_) (by have := P3.out.many; simp only [List.length_take]; omega)
      rcases List.mem_or_eq_of_mem_set hx with h | rfl
      · exact P3.out.small x h
      · exact hc
    have c1 := fun W (hW : Below w7.heap.size w7 W) => impl_PoolOk_c (pmPool p c) _ _ PB W (GPool.good.below OP7.R hW)
    have c2 := fun W (hW : Below w7.heap.size w7 W) => impl_PoolUsed_c (pmPool p c) _ _ PB W (GPool.good.below OP7.R hW)
    have c3 := fun W (hW : Below w7.heap.size w7 W) => impl_PoolUsed_c p _ _ hbulk W (GPool.good.below PR.out (hB7.trans (hW.mono hB7.size)))
    have c4 := fun W (hW : Below w7.heap.size w7 W) => hasInt_c p.free _ w.heap.size (j : Int) W ((P3.out.free.sl P3.out.f64).below IntR.good (hB7.trans (hW.mono hB7.size)))
    have c5 := fun W (hW : Below w7.heap.size w7 W) => hasInt_c (pmPool p c).free _ _ (j : Int) W ((OP7.free.sl flatInt).below IntR.good hW)
    rw [hok] at c1; rw [hus] at c2; rw [hc1] at c4; rw [hc2] at c5
    obtain ⟨gq, cq, hv, hg1, hg2, hq1, hq2, hR, -⟩ := own_cells OP7.cells.1 (show 0 < (pmPool p c).cells.length by omega)
    obtain ⟨rfl, rfl⟩ : ua' = some ⟨gq, 0, none⟩ ∧ uc' = cq := by injection hv with e1 e2 e3; exact ⟨e1, e3⟩
    have hget : ∀ j' u', (cellRow c)[j']? = some u' → w7.cell? ⟨gq, j * 9 + j', none⟩ = some u' := fun j' u' hj' => by
      have := hR (j * 9 + j') u' (flatCell.get hjc hj')
      rwa [Nat.zero_add] at this
    have k0 := hget 0 _ rfl; have k1 := hget 1 _ rfl; have k2 := hget 2 _ rfl; have k3 := hget 3 _ rfl; have k4 := hget 4 _ rfl; have k5 := hget 5 _ rfl; have k6 := hget 6 _ rfl; have k7 := hget 7 _ rfl; have k8 := hget 8 _ rfl
    rw [Nat.add_zero] at k0
    rw [ha]
    replace c1 := Lib.hid c1; replace c2 := Lib.hid c2; replace c3 := Lib.hid c3; replace c4 := Lib.hid c4; replace c5 := Lib.hid c5
    replace hok := Lib.hid hok; replace hus := Lib.hid hus; replace hc1 := Lib.hid hc1; replace hc2 := Lib.hid hc2; replace hjc := Lib.hid hjc; replace ha := Lib.hid ha; replace hcode := Lib.hid hcode; replace OP7 := Lib.hid OP7
    clear hget hR hv
    generalize (pmPool p c).cells.length = nq at *
    generalize (pmPool p c).free.length = mq at *
    generalize poolUsed p = up at *
    go_upto_region 10 with fail
    refine wp_region_ext_lit (by kernel_rfl) (by kernel_rfl) ?_
    repeat (any_goals (first | go_big_quiet_step ((first | (go_at_call 11; with_reducible exact Calls.ext (c1.out _ (Subtype.property _))) | (go_at_call 12; with_reducible exact Calls.ext (c2.out _ (Subtype.property _))) | (go_at_call 12; with_reducible exact Calls.ext (c3.out _ (Subtype.property _))) | (go_at_call 13; with_reducible exact Calls.ext (c4.out _ (Subtype.property _))) | (go_at_call 13; with_reducible exact Calls.ext (c5.out _ (Subtype.property _))))) | quiet_step ((first | (go_at_call 11; with_reducible exact Calls.ext (c1.out _ (Subtype.property _))) | (go_at_call 12; with_reducible exact Calls.ext (c2.out _ (Subtype.property _))) | (go_at_call 12; with_reducible exact Calls.ext (c3.out _ (Subtype.property _))) | (go_at_call 13; with_reducible exact Calls.ext (c4.out _ (Subtype.property _))) | (go_at_call 13; with_reducible exact Calls.ext (c5.out _ (Subtype.property _)))))))
    all_goals (refine wpQuiet_nil ?_; rintro w8 ⟨⟨w9, hb⟩, rfl⟩)
    all_goals go_wp2_with fail
    all_goals go_returns
    all_goals exact ⟨rfl, hw7.trans (hb.mono hw7.size)⟩
  · have hd0 : (pmCode p c != 0) = true := by simp [hcode]
    have hz : pmPool p c = GPool.zero := by unfold pmPool; rw [if_neg hcode]
    have ha : pmAt p c = 0 := by unfold pmAt; rw [if_neg hcode]
    have hl : (pmPool p c).cells.length = 0 := by rw [hz]; rfl
    rw [ha]
    rw [hl] at q_0 Q7 ⊢
    replace hz := Lib.hid hz; replace ha := Lib.hid ha; replace hl := Lib.hid hl; replace hcode := Lib.hid hcode; replace OP7 := Lib.hid OP7
    go_wp2_with fail
    go_returns
    exact ⟨rfl, hw7⟩
end fnPool
end Go.Proofs.Ytajbgkpjmgmdhaa
