/- The walks of the eq functions: two values are equal as data. Printed by gen_helpers.py. -/
import Derived.Test.YtajbgkpjmgmdhaaRows
import Derived.Test.YtajbgkpjmgmdhaaTypes
namespace Go.Proofs.Ytajbgkpjmgmdhaa
open Go.RowKit
set_option linter.unusedVariables false
set_option linter.unusedSimpArgs false
attribute [local go_sem] Ext.cell


set_option maxHeartbeats 1000000 in
theorem eqIntS_c (x y : List Int) (u v : Value) (lo lo' : Nat) (w : World) (hx : Sl IntR 1 lo w u x) (hy : Sl IntR 1 lo' w v y) :
    Calls Try.prog 52 #[u, v] w fun e w' => e = .returned (.bool (decide (x = y))) ∧ Below w.heap.size w w' := by
  obtain ⟨a1, c1, rfl, l1, m1, h1⟩ := hx
  obtain ⟨a2, c2, rfl, l2, m2, h2⟩ := hy
  obtain ⟨n, hn⟩ : ∃ n, n = x.length := ⟨_, rfl⟩
  obtain ⟨m, hm⟩ : ∃ m, m = y.length := ⟨_, rfl⟩
  rw [← hn] at l1 ⊢
  rw [← hm] at l2 ⊢
  have X1 := Lib.hid hn; have X2 := Lib.hid hm
  clear hn hm
  by_cases hl : n = m
  · subst hl
    go_enter Try.func52, Try.ntmps52
    go_wp2_with fail
    go_loopw [5] (fun i wr => ∃ k : Nat, k ≤ n ∧ i = .int .i64 k ∧ Hid (x.take k = y.take k) ∧ Below w.heap.size w wr) (fun i _ => n - (intOf i).toNat)
    case atStart => exact ⟨0, by omega, rfl, rfl, Below.refl _ _⟩
    case round =>
      obtain ⟨k, hk, rfl, ht, hw⟩ := hrel
      by_cases hlt : k < n
      · obtain ⟨b1, o1, p, s1, _, rfl, P1, q1, r1⟩ := (h1.below IntR.good hw).get X1 hlt
        obtain ⟨b2, o2, q, s2, _, rfl, P2, q2, r2⟩ := (h2.below IntR.good hw).get X2 hlt
        obtain ⟨rfl, _⟩ := q1; obtain ⟨rfl, _⟩ := q2
        have R1 : ∀ z : Ext wr, z.val.cell? ⟨b1, o1 + k, none⟩ = some (.int .i64 p) := fun z => by simpa using (r1.ext z) 0 _ rfl
        have R2 : ∀ z : Ext wr, z.val.cell? ⟨b2, o2 + k, none⟩ = some (.int .i64 q) := fun z => by simpa using (r2.ext z) 0 _ rfl
        clear r1 r2
        go_wp2_with fail
        refine wp_region_ext_lit (by kernel_rfl) (by kernel_rfl) ?_
        repeat (go_big_quiet_step ((fail)))
        refine wpQuiet_nil ?_
        rintro _ ⟨⟨w2, hw2⟩, rfl⟩
        clear R1 R2
        have hw3 := hw.trans (hw2.mono hw.size)
        generalize hd : (p != q) = d
        have E := Lib.hid hd; clear hd
        cases d
        · have E := neq_of_int_false E.out
          have E := Lib.hid E
          go_wp2
          go_roundw
          case rel => exact ⟨k + 1, by omega, by go_num, by show _ = _; rw [take_snoc' P1.out, take_snoc' P2.out, ht.out, E.out], hw3⟩
          case measure => simp [intOf]; omega
        · have E := neq_of_int_true E.out
          have E := Lib.hid E
          go_wp2
          go_returns
          refine ⟨?_, hw3⟩
          have : x ≠ y := by
            rintro rfl
            exact E.out (Option.some.inj (P1.out.symm.trans P2.out))
          simp [this]
      · go_wp2
        go_returns
        refine ⟨?_, hw⟩
        obtain rfl : k = n := by omega
        have h1 : x = y := by
          have := ht.out
          rwa [take_full X1, take_full X2] at this
        simp [h1]
  · go_enter Try.func52, Try.ntmps52
    go_wp2
    go_returns
    refine ⟨?_, Below.refl _ _⟩
    have h1 : x ≠ y := by
      rintro rfl
      exact hl (X1.out.trans X2.out.symm)
    simp [h1]


set_option maxHeartbeats 1000000 in
theorem eqVal_c (x y : GVal) (r s : List Value) (lo lo' : Nat) (w : World) (hx : GVal.R lo w r x) (hy : GVal.R lo' w s y) :
    Calls Try.prog 65 #[.agg r.toArray, .agg s.toArray] w fun e w' => e = .returned (.bool (decide (x = y))) ∧ Below w.heap.size w w' := by
  obtain ⟨x0, x1, x2⟩ := x
  obtain ⟨y0, y1, y2⟩ := y
  obtain ⟨rfl, ⟨wx0, wx1, wx2⟩⟩ := hx
  obtain ⟨rfl, ⟨wy0, wy1, wy2⟩⟩ := hy
  dsimp only at *
  go_enter Try.func65, Try.ntmps65
  go_wp2
  all_goals (go_returns; refine ⟨?_, by go_grown⟩; (try clear hc hf); simp_all [toList_eq] <;> grind)


set_option maxHeartbeats 1000000 in
theorem eqValS_c (x y : List GVal) (u v : Value) (lo lo' : Nat) (w : World) (hx : Sl GVal.R 3 lo w u x) (hy : Sl GVal.R 3 lo' w v y) :
    Calls Try.prog 28 #[u, v] w fun e w' => e = .returned (.bool (decide (x = y))) ∧ Below w.heap.size w w' := by
  obtain ⟨a1, c1, rfl, l1, m1, h1⟩ := hx
  obtain ⟨a2, c2, rfl, l2, m2, h2⟩ := hy
  obtain ⟨n, hn⟩ : ∃ n, n = x.length := ⟨_, rfl⟩
  obtain ⟨m, hm⟩ : ∃ m, m = y.length := ⟨_, rfl⟩
  rw [← hn] at l1 ⊢
  rw [← hm] at l2 ⊢
  have X1 := Lib.hid hn; have X2 := Lib.hid hm
  clear hn hm
  by_cases hl : n = m
  · subst hl
    go_enter Try.func28, Try.ntmps28
    go_wp2_with fail
    go_loopw [5] (fun i wr => ∃ k : Nat, k ≤ n ∧ i = .int .i64 k ∧ Hid (x.take k = y.take k) ∧ Below w.heap.size w wr) (fun i _ => n - (intOf i).toNat)
    case atStart => exact ⟨0, by omega, rfl, rfl, Below.refl _ _⟩
    case round =>
      obtain ⟨k, hk, rfl, ht, hw⟩ := hrel
      by_cases hlt : k < n
      · obtain ⟨b1, o1, p, s1, _, rfl, P1, q1, r1⟩ := (h1.below GVal.good hw).get X1 hlt
        obtain ⟨b2, o2, q, s2, _, rfl, P2, q2, r2⟩ := (h2.below GVal.good hw).get X2 hlt
        have Q1 := q1; have Q2 := q2
        obtain ⟨rfl, _⟩ := q1; obtain ⟨rfl, _⟩ := q2
        have R1 : ∀ z : Ext wr, z.val.cell? ⟨b1, o1 + k * 3, none⟩ = some (.int .i64 p.kind) ∧ z.val.cell? ⟨b1, o1 + k * 3 + 1, none⟩ = some (.int .i64 p.n) ∧ z.val.cell? ⟨b1, o1 + k * 3 + 2, none⟩ = some (.string p.s) := fun z => ⟨by simpa using (r1.ext z) 0 _ rfl, by simpa using (r1.ext z) 1 _ rfl, by simpa using (r1.ext z) 2 _ rfl⟩
        have R2 : ∀ z : Ext wr, z.val.cell? ⟨b2, o2 + k * 3, none⟩ = some (.int .i64 q.kind) ∧ z.val.cell? ⟨b2, o2 + k * 3 + 1, none⟩ = some (.int .i64 q.n) ∧ z.val.cell? ⟨b2, o2 + k * 3 + 2, none⟩ = some (.string q.s) := fun z => ⟨by simpa using (r2.ext z) 0 _ rfl, by simpa using (r2.ext z) 1 _ rfl, by simpa using (r2.ext z) 2 _ rfl⟩
        clear r1 r2
        go_wp2_with fail
        refine wp_region_ext_lit (by kernel_rfl) (by kernel_rfl) ?_
        repeat (go_big_quiet_step (((go_at_call 65; exact Calls.ext (eqVal_c p q _ _ _ _ _ (GVal.good.below Q1 (Subtype.property _)) (GVal.good.below Q2 (Subtype.property _)))))))
        refine wpQuiet_nil ?_
        rintro _ ⟨⟨w2, hw2⟩, rfl⟩
        clear R1 R2
        have hw3 := hw.trans (hw2.mono hw.size)
        generalize hd : (decide (p = q)) = d
        have E := Lib.hid hd; clear hd
        cases d
        · have E := neq_of_dec_false E.out
          have E := Lib.hid E
          go_wp2
          go_returns
          refine ⟨?_, hw3⟩
          have : x ≠ y := by
            rintro rfl
            exact E.out (Option.some.inj (P1.out.symm.trans P2.out))
          simp [this]
        · have E := neq_of_dec_true E.out
          have E := Lib.hid E
          go_wp2
          go_roundw
          case rel => exact ⟨k + 1, by omega, by go_num, by show _ = _; rw [take_snoc' P1.out, take_snoc' P2.out, ht.out, E.out], hw3⟩
          case measure => simp [intOf]; omega
      · go_wp2
        go_returns
        refine ⟨?_, hw⟩
        obtain rfl : k = n := by omega
        have h1 : x = y := by
          have := ht.out
          rwa [take_full X1, take_full X2] at this
        simp [h1]
  · go_enter Try.func28, Try.ntmps28
    go_wp2
    go_returns
    refine ⟨?_, Below.refl _ _⟩
    have h1 : x ≠ y := by
      rintro rfl
      exact hl (X1.out.trans X2.out.symm)
    simp [h1]


set_option maxHeartbeats 1000000 in
theorem eqCell_c (x y : GCell) (r s : List Value) (lo lo' : Nat) (w : World) (hx : GCell.R lo w r x) (hy : GCell.R lo' w s y) :
    Calls Try.prog 68 #[.agg r.toArray, .agg s.toArray] w fun e w' => e = .returned (.bool (decide (x = y))) ∧ Below w.heap.size w w' := by
  obtain ⟨x0, x1, x2, ⟨x3, x4, x5⟩, ⟨x6, x7, x8⟩⟩ := x
  obtain ⟨y0, y1, y2, ⟨y3, y4, y5⟩, ⟨y6, y7, y8⟩⟩ := y
  obtain ⟨rfl, ⟨wx0, wx1, wx2, wx3, wx4, wx5, wx6, wx7, wx8⟩⟩ := hx
  obtain ⟨rfl, ⟨wy0, wy1, wy2, wy3, wy4, wy5, wy6, wy7, wy8⟩⟩ := hy
  dsimp only at *
  go_enter Try.func68, Try.ntmps68
  go_wp2_with (first | (go_at_call 65; ((with_reducible refine (eqVal_c (⟨x3, x4, x5⟩ : GVal) (⟨y3, y4, y5⟩ : GVal) _ _ lo lo' _ ?_ ?_).mono ?_); exact ⟨rfl, ⟨wx3, wx4, wx5⟩⟩; exact ⟨rfl, ⟨wy3, wy4, wy5⟩⟩; rintro e w1 ⟨rfl, hb⟩; have hw : Below w.heap.size w w1 := Below.trans (by go_grown) (hb.mono (by go_grown)); obtain ⟨hc, hf⟩ := bcell hb; have hz := hw.size; have hz1 := hb.size; have hs0 : w.heap.size < w1.heap.size := (by have h := hz1; (try simp only [World.size_alloc, World.size_setCell, World.size_drew] at h); omega); have hs1 : w.heap.size + 1 < w1.heap.size := (by have h := hz1; (try simp only [World.size_alloc, World.size_setCell, World.size_drew] at h); omega); clear hb)) | (go_at_call 65; ((with_reducible refine (eqVal_c (⟨x6, x7, x8⟩ : GVal) (⟨y6, y7, y8⟩ : GVal) _ _ lo lo' _ ?_ ?_).mono ?_); exact ⟨rfl, ⟨wx6, wx7, wx8⟩⟩; exact ⟨rfl, ⟨wy6, wy7, wy8⟩⟩; rintro e w1 ⟨rfl, hb⟩; have hw : Below w.heap.size w w1 := Below.trans (by go_grown) (hb.mono (by go_grown)); obtain ⟨hc, hf⟩ := bcell hb; have hz := hw.size; have hz1 := hb.size; have hs0 : w.heap.size < w1.heap.size := (by have h := hz1; (try simp only [World.size_alloc, World.size_setCell, World.size_drew] at h); omega); have hs1 : w.heap.size + 1 < w1.heap.size := (by have h := hz1; (try simp only [World.size_alloc, World.size_setCell, World.size_drew] at h); omega); clear hb)))
  all_goals (go_returns; refine ⟨?_, by go_grown⟩; (try clear hc hf); simp_all [toList_eq] <;> grind)


set_option maxHeartbeats 1000000 in
theorem eqCellS_c (x y : List GCell) (u v : Value) (lo lo' : Nat) (w : World) (hx : Sl GCell.R 9 lo w u x) (hy : Sl GCell.R 9 lo' w v y) :
    Calls Try.prog 31 #[u, v] w fun e w' => e = .returned (.bool (decide (x = y))) ∧ Below w.heap.size w w' := by
  obtain ⟨a1, c1, rfl, l1, m1, h1⟩ := hx
  obtain ⟨a2, c2, rfl, l2, m2, h2⟩ := hy
  obtain ⟨n, hn⟩ : ∃ n, n = x.length := ⟨_, rfl⟩
  obtain ⟨m, hm⟩ : ∃ m, m = y.length := ⟨_, rfl⟩
  rw [← hn] at l1 ⊢
  rw [← hm] at l2 ⊢
  have X1 := Lib.hid hn; have X2 := Lib.hid hm
  clear hn hm
  by_cases hl : n = m
  · subst hl
    go_enter Try.func31, Try.ntmps31
    go_wp2_with fail
    go_loopw [5] (fun i wr => ∃ k : Nat, k ≤ n ∧ i = .int .i64 k ∧ Hid (x.take k = y.take k) ∧ Below w.heap.size w wr) (fun i _ => n - (intOf i).toNat)
    case atStart => exact ⟨0, by omega, rfl, rfl, Below.refl _ _⟩
    case round =>
      obtain ⟨k, hk, rfl, ht, hw⟩ := hrel
      by_cases hlt : k < n
      · obtain ⟨b1, o1, p, s1, _, rfl, P1, q1, r1⟩ := (h1.below GCell.good hw).get X1 hlt
        obtain ⟨b2, o2, q, s2, _, rfl, P2, q2, r2⟩ := (h2.below GCell.good hw).get X2 hlt
        have Q1 := q1; have Q2 := q2
        obtain ⟨rfl, _⟩ := q1; obtain ⟨rfl, _⟩ := q2
        have R1 : ∀ z : Ext wr, z.val.cell? ⟨b1, o1 + k * 9, none⟩ = some (.int .i64 p.kind) ∧ z.val.cell? ⟨b1, o1 + k * 9 + 1, none⟩ = some (.int .i64 p.n) ∧ z.val.cell? ⟨b1, o1 + k * 9 + 2, none⟩ = some (.string p.s) ∧ z.val.cell? ⟨b1, o1 + k * 9 + 3, none⟩ = some (.int .i64 p.a.kind) ∧ z.val.cell? ⟨b1, o1 + k * 9 + 4, none⟩ = some (.int .i64 p.a.n) ∧ z.val.cell? ⟨b1, o1 + k * 9 + 5, none⟩ = some (.string p.a.s) ∧ z.val.cell? ⟨b1, o1 + k * 9 + 6, none⟩ = some (.int .i64 p.b.kind) ∧ z.val.cell? ⟨b1, o1 + k * 9 + 7, none⟩ = some (.int .i64 p.b.n) ∧ z.val.cell? ⟨b1, o1 + k * 9 + 8, none⟩ = some (.string p.b.s) := fun z => ⟨by simpa using (r1.ext z) 0 _ rfl, by simpa using (r1.ext z) 1 _ rfl, by simpa using (r1.ext z) 2 _ rfl, by simpa using (r1.ext z) 3 _ rfl, by simpa using (r1.ext z) 4 _ rfl, by simpa using (r1.ext z) 5 _ rfl, by simpa using (r1.ext z) 6 _ rfl, by simpa using (r1.ext z) 7 _ rfl, by simpa using (r1.ext z) 8 _ rfl⟩
        have R2 : ∀ z : Ext wr, z.val.cell? ⟨b2, o2 + k * 9, none⟩ = some (.int .i64 q.kind) ∧ z.val.cell? ⟨b2, o2 + k * 9 + 1, none⟩ = some (.int .i64 q.n) ∧ z.val.cell? ⟨b2, o2 + k * 9 + 2, none⟩ = some (.string q.s) ∧ z.val.cell? ⟨b2, o2 + k * 9 + 3, none⟩ = some (.int .i64 q.a.kind) ∧ z.val.cell? ⟨b2, o2 + k * 9 + 4, none⟩ = some (.int .i64 q.a.n) ∧ z.val.cell? ⟨b2, o2 + k * 9 + 5, none⟩ = some (.string q.a.s) ∧ z.val.cell? ⟨b2, o2 + k * 9 + 6, none⟩ = some (.int .i64 q.b.kind) ∧ z.val.cell? ⟨b2, o2 + k * 9 + 7, none⟩ = some (.int .i64 q.b.n) ∧ z.val.cell? ⟨b2, o2 + k * 9 + 8, none⟩ = some (.string q.b.s) := fun z => ⟨by simpa using (r2.ext z) 0 _ rfl, by simpa using (r2.ext z) 1 _ rfl, by simpa using (r2.ext z) 2 _ rfl, by simpa using (r2.ext z) 3 _ rfl, by simpa using (r2.ext z) 4 _ rfl, by simpa using (r2.ext z) 5 _ rfl, by simpa using (r2.ext z) 6 _ rfl, by simpa using (r2.ext z) 7 _ rfl, by simpa using (r2.ext z) 8 _ rfl⟩
        clear r1 r2
        go_wp2_with fail
        refine wp_region_ext_lit (by kernel_rfl) (by kernel_rfl) ?_
        repeat (go_big_quiet_step (((go_at_call 68; exact Calls.ext (eqCell_c p q _ _ _ _ _ (GCell.good.below Q1 (Subtype.property _)) (GCell.good.below Q2 (Subtype.property _)))))))
        refine wpQuiet_nil ?_
        rintro _ ⟨⟨w2, hw2⟩, rfl⟩
        clear R1 R2
        have hw3 := hw.trans (hw2.mono hw.size)
        generalize hd : (decide (p = q)) = d
        have E := Lib.hid hd; clear hd
        cases d
        · have E := neq_of_dec_false E.out
          have E := Lib.hid E
          go_wp2
          go_returns
          refine ⟨?_, hw3⟩
          have : x ≠ y := by
            rintro rfl
            exact E.out (Option.some.inj (P1.out.symm.trans P2.out))
          simp [this]
        · have E := neq_of_dec_true E.out
          have E := Lib.hid E
          go_wp2
          go_roundw
          case rel => exact ⟨k + 1, by omega, by go_num, by show _ = _; rw [take_snoc' P1.out, take_snoc' P2.out, ht.out, E.out], hw3⟩
          case measure => simp [intOf]; omega
      · go_wp2
        go_returns
        refine ⟨?_, hw⟩
        obtain rfl : k = n := by omega
        have h1 : x = y := by
          have := ht.out
          rwa [take_full X1, take_full X2] at this
        simp [h1]
  · go_enter Try.func31, Try.ntmps31
    go_wp2
    go_returns
    refine ⟨?_, Below.refl _ _⟩
    have h1 : x ≠ y := by
      rintro rfl
      exact hl (X1.out.trans X2.out.symm)
    simp [h1]


set_option maxHeartbeats 1000000 in
theorem eqPool_c (x y : GPool) (r s : List Value) (lo lo' : Nat) (w : World) (hx : GPool.R lo w r x) (hy : GPool.R lo' w s y) :
    Calls Try.prog 18 #[.agg r.toArray, .agg s.toArray] w fun e w' => e = .returned (.bool (decide (x = y))) ∧ Below w.heap.size w w' := by
  obtain ⟨x0, x1⟩ := x
  obtain ⟨y0, y1⟩ := y
  obtain ⟨u0, u1, rfl, _, a0, a1⟩ := hx
  obtain ⟨v0, v1, rfl, _, b0, b1⟩ := hy
  dsimp only at *
  go_enter Try.func18, Try.ntmps18
  go_wp2_with (first | (go_at_call 31; ((with_reducible refine (eqCellS_c x0 y0 u0 v0 lo lo' _ ?_ ?_).mono ?_); exact a0.below GCell.good (by go_grown); exact b0.below GCell.good (by go_grown); rintro e w1 ⟨rfl, hb⟩; have hw : Below w.heap.size w w1 := Below.trans (by go_grown) (hb.mono (by go_grown)); obtain ⟨hc, hf⟩ := bcell hb; have hz := hw.size; have hz1 := hb.size; have hs0 : w.heap.size < w1.heap.size := (by have h := hz1; (try simp only [World.size_alloc, World.size_setCell, World.size_drew] at h); omega); have hs1 : w.heap.size + 1 < w1.heap.size := (by have h := hz1; (try simp only [World.size_alloc, World.size_setCell, World.size_drew] at h); omega); clear hb)) | (go_at_call 52; ((with_reducible refine (eqIntS_c x1 y1 u1 v1 lo lo' _ ?_ ?_).mono ?_); exact a1.below IntR.good (by go_grown); exact b1.below IntR.good (by go_grown); rintro e w1 ⟨rfl, hb⟩; have hw : Below w.heap.size w w1 := Below.trans (by go_grown) (hb.mono (by go_grown)); obtain ⟨hc, hf⟩ := bcell hb; have hz := hw.size; have hz1 := hb.size; have hs0 : w.heap.size < w1.heap.size := (by have h := hz1; (try simp only [World.size_alloc, World.size_setCell, World.size_drew] at h); omega); have hs1 : w.heap.size + 1 < w1.heap.size := (by have h := hz1; (try simp only [World.size_alloc, World.size_setCell, World.size_drew] at h); omega); clear hb)))
  all_goals (go_returns; refine ⟨?_, by go_grown⟩; (try clear hc hf); simp_all [toList_eq] <;> grind)


end Go.Proofs.Ytajbgkpjmgmdhaa