/- Parts of the proof, merged: Eq. -/
import Derived.Test.YtklfepnokidnaaaRows
import Derived.Test.YtklfepnokidnaaaSc2
/- The walks of the eq functions: two values are equal as data. Printed by gen_helpers.py. -/
namespace Go.Proofs.Ytklfepnokidnaaa
open Go.RowKit
set_option linter.unusedVariables false
set_option linter.unusedSimpArgs false
attribute [local go_sem] Ext.cell


set_option maxHeartbeats 1000000 in
theorem eqIntS_c (x y : List Int) (u v : Value) (lo lo' : Nat) (w : World) (hx : Sl IntR 1 lo w u x) (hy : Sl IntR 1 lo' w v y) :
    Calls Try.prog 90 #[u, v] w fun e w' => e = .returned (.bool (decide (x = y))) ∧ Below w.heap.size w w' := by
  obtain ⟨a1, c1, rfl, l1, m1, h1⟩ := hx
  obtain ⟨a2, c2, rfl, l2, m2, h2⟩ := hy
  obtain ⟨n, hn⟩ : ∃ n, n = x.length := ⟨_, rfl⟩
  obtain ⟨m, hm⟩ : ∃ m, m = y.length := ⟨_, rfl⟩
  rw [← hn] at l1 ⊢
  rw [← hm] at l2 ⊢
  have X1 := Lib.hid hn; have X2 := Lib.hid hm
  clear hn hm
  by_cases hl : n = m
  · subst hl
    go_enter Try.func90, Try.ntmps90
    go_wp2_with fail
    go_loopw [5] (fun i wr => ∃ k : Nat, k ≤ n ∧ i = .int .i64 k ∧ Hid (x.take k = y.take k) ∧ Below w.heap.size w wr) (fun i _ => n - (intOf i).toNat)
    case atStart => exact ⟨0, by omega, rfl, rfl, Below.refl _ _⟩
    case round =>
      obtain ⟨k, hk, rfl, ht, hw⟩ := hrel
      by_cases hlt : k < n
      · obtain ⟨b1, o1, p, s1, _, rfl, P1, q1, r1⟩ := (h1.below IntR.good hw).get X1 hlt
        obtain ⟨b2, o2, q, s2, _, rfl, P2, q2, r2⟩ := (h2.below IntR.good hw).get X2 hlt
        obtain ⟨rfl, _⟩ := q1; obtain ⟨rfl, _⟩ := q2
        have R1 : ∀ z : Ext wr, z.val.cell? ⟨b1, o1 + k, none⟩ = some (.int .i64 p) := fun z => by simpa using (r1.ext z) 0 _ rfl
        have R2 : ∀ z : Ext wr, z.val.cell? ⟨b2, o2 + k, none⟩ = some (.int .i64 q) := fun z => by simpa using (r2.ext z) 0 _ rfl
        clear r1 r2
        go_wp2_with fail
        refine wp_region_ext_lit (by kernel_rfl) (by kernel_rfl) ?_
        repeat (go_big_quiet_step ((fail)))
        refine wpQuiet_nil ?_
        rintro _ ⟨⟨w2, hw2⟩, rfl⟩
        clear R1 R2
        have hw3 := hw.trans (hw2.mono hw.size)
        generalize hd : (p != q) = d
        have E := Lib.hid hd; clear hd
        cases d
        · have E := neq_of_int_false E.out
          have E := Lib.hid E
          go_wp2
          go_roundw
          case rel => exact ⟨k + 1, by omega, by go_num, by show _ = _; rw [take_snoc' P1.out, take_snoc' P2.out, ht.out, E.out], hw3⟩
          case measure => simp [intOf]; omega
        · have E := neq_of_int_true E.out
          have E := Lib.hid E
          go_wp2
          go_returns
          refine ⟨?_, hw3⟩
          have : x ≠ y := by
            rintro rfl
            exact E.out (Option.some.inj (P1.out.symm.trans P2.out))
          simp [this]
      · go_wp2
        go_returns
        refine ⟨?_, hw⟩
        obtain rfl : k = n := by omega
        have h1 : x = y := by
          have := ht.out
          rwa [take_full X1, take_full X2] at this
        simp [h1]
  · go_enter Try.func90, Try.ntmps90
    go_wp2
    go_returns
    refine ⟨?_, Below.refl _ _⟩
    have h1 : x ≠ y := by
      rintro rfl
      exact hl (X1.out.trans X2.out.symm)
    simp [h1]


set_option maxHeartbeats 1000000 in
theorem eqPNode_c (x y : GPNode) (r s : List Value) (lo lo' : Nat) (w : World) (hx : GPNode.R lo w r x) (hy : GPNode.R lo' w s y) :
    Calls Try.prog 81 #[.agg r.toArray, .agg s.toArray] w fun e w' => e = .returned (.bool (decide (x = y))) ∧ Below w.heap.size w w' := by
  obtain ⟨x0, x1, x2, x3⟩ := x
  obtain ⟨y0, y1, y2, y3⟩ := y
  obtain ⟨u0, rfl, ⟨wx0, wx1, wx2⟩, a0⟩ := hx
  obtain ⟨v0, rfl, ⟨wy0, wy1, wy2⟩, b0⟩ := hy
  dsimp only at *
  go_enter Try.func81, Try.ntmps81
  go_wp2_with (first | (go_at_call 90; ((with_reducible refine (eqIntS_c x3 y3 u0 v0 lo lo' _ ?_ ?_).mono ?_); exact a0.below IntR.good (by go_grown); exact b0.below IntR.good (by go_grown); rintro e w1 ⟨rfl, hb⟩; have hw : Below w.heap.size w w1 := Below.trans (by go_grown) (hb.mono (by go_grown)); obtain ⟨hc, hf⟩ := bcell hb; have hz := hw.size; have hz1 := hb.size; have hs0 : w.heap.size < w1.heap.size := (by have h := hz1; (try simp only [World.size_alloc, World.size_setCell, World.size_drew] at h); omega); have hs1 : w.heap.size + 1 < w1.heap.size := (by have h := hz1; (try simp only [World.size_alloc, World.size_setCell, World.size_drew] at h); omega); clear hb)))
  all_goals (go_returns; refine ⟨?_, by go_grown⟩; (try clear hc hf); simp_all [toList_eq] <;> grind)


set_option maxHeartbeats 1000000 in
theorem eqPNodeS_c (x y : List GPNode) (u v : Value) (lo lo' : Nat) (w : World) (hx : Sl GPNode.R 4 lo w u x) (hy : Sl GPNode.R 4 lo' w v y) :
    Calls Try.prog 72 #[u, v] w fun e w' => e = .returned (.bool (decide (x = y))) ∧ Below w.heap.size w w' := by
  obtain ⟨a1, c1, rfl, l1, m1, h1⟩ := hx
  obtain ⟨a2, c2, rfl, l2, m2, h2⟩ := hy
  obtain ⟨n, hn⟩ : ∃ n, n = x.length := ⟨_, rfl⟩
  obtain ⟨m, hm⟩ : ∃ m, m = y.length := ⟨_, rfl⟩
  rw [← hn] at l1 ⊢
  rw [← hm] at l2 ⊢
  have X1 := Lib.hid hn; have X2 := Lib.hid hm
  clear hn hm
  by_cases hl : n = m
  · subst hl
    go_enter Try.func72, Try.ntmps72
    go_wp2_with fail
    go_loopw [5] (fun i wr => ∃ k : Nat, k ≤ n ∧ i = .int .i64 k ∧ Hid (x.take k = y.take k) ∧ Below w.heap.size w wr) (fun i _ => n - (intOf i).toNat)
    case atStart => exact ⟨0, by omega, rfl, rfl, Below.refl _ _⟩
    case round =>
      obtain ⟨k, hk, rfl, ht, hw⟩ := hrel
      by_cases hlt : k < n
      · obtain ⟨b1, o1, p, s1, _, rfl, P1, q1, r1⟩ := (h1.below GPNode.good hw).get X1 hlt
        obtain ⟨b2, o2, q, s2, _, rfl, P2, q2, r2⟩ := (h2.below GPNode.good hw).get X2 hlt
        have Q1 := q1; have Q2 := q2
        obtain ⟨s0, rfl, _⟩ := q1; obtain ⟨t0, rfl, _⟩ := q2
        have R1 : ∀ z : Ext wr, z.val.cell? ⟨b1, o1 + k * 4, none⟩ = some (.int .i64 p.kind) ∧ z.val.cell? ⟨b1, o1 + k * 4 + 1, none⟩ = some (.int .i64 p.n) ∧ z.val.cell? ⟨b1, o1 + k * 4 + 2, none⟩ = some (.string p.s) ∧ z.val.cell? ⟨b1, o1 + k * 4 + 3, none⟩ = some (s0) := fun z => ⟨by simpa using (r1.ext z) 0 _ rfl, by simpa using (r1.ext z) 1 _ rfl, by simpa using (r1.ext z) 2 _ rfl, by simpa using (r1.ext z) 3 _ rfl⟩
        have R2 : ∀ z : Ext wr, z.val.cell? ⟨b2, o2 + k * 4, none⟩ = some (.int .i64 q.kind) ∧ z.val.cell? ⟨b2, o2 + k * 4 + 1, none⟩ = some (.int .i64 q.n) ∧ z.val.cell? ⟨b2, o2 + k * 4 + 2, none⟩ = some (.string q.s) ∧ z.val.cell? ⟨b2, o2 + k * 4 + 3, none⟩ = some (t0) := fun z => ⟨by simpa using (r2.ext z) 0 _ rfl, by simpa using (r2.ext z) 1 _ rfl, by simpa using (r2.ext z) 2 _ rfl, by simpa using (r2.ext z) 3 _ rfl⟩
        clear r1 r2
        go_wp2_with fail
        refine wp_region_ext_lit (by kernel_rfl) (by kernel_rfl) ?_
        repeat (go_big_quiet_step (((go_at_call 81; exact Calls.ext (eqPNode_c p q _ _ _ _ _ (GPNode.good.below Q1 (Subtype.property _)) (GPNode.good.below Q2 (Subtype.property _)))))))
        refine wpQuiet_nil ?_
        rintro _ ⟨⟨w2, hw2⟩, rfl⟩
        clear R1 R2
        have hw3 := hw.trans (hw2.mono hw.size)
        generalize hd : (decide (p = q)) = d
        have E := Lib.hid hd; clear hd
        cases d
        · have E := neq_of_dec_false E.out
          have E := Lib.hid E
          go_wp2
          go_returns
          refine ⟨?_, hw3⟩
          have : x ≠ y := by
            rintro rfl
            exact E.out (Option.some.inj (P1.out.symm.trans P2.out))
          simp [this]
        · have E := neq_of_dec_true E.out
          have E := Lib.hid E
          go_wp2
          go_roundw
          case rel => exact ⟨k + 1, by omega, by go_num, by show _ = _; rw [take_snoc' P1.out, take_snoc' P2.out, ht.out, E.out], hw3⟩
          case measure => simp [intOf]; omega
      · go_wp2
        go_returns
        refine ⟨?_, hw⟩
        obtain rfl : k = n := by omega
        have h1 : x = y := by
          have := ht.out
          rwa [take_full X1, take_full X2] at this
        simp [h1]
  · go_enter Try.func72, Try.ntmps72
    go_wp2
    go_returns
    refine ⟨?_, Below.refl _ _⟩
    have h1 : x ≠ y := by
      rintro rfl
      exact hl (X1.out.trans X2.out.symm)
    simp [h1]


set_option maxHeartbeats 1000000 in
theorem eqPat_c (x y : GPat) (r s : List Value) (lo lo' : Nat) (w : World) (hx : GPat.R lo w r x) (hy : GPat.R lo' w s y) :
    Calls Try.prog 49 #[.agg r.toArray, .agg s.toArray] w fun e w' => e = .returned (.bool (decide (x = y))) ∧ Below w.heap.size w w' := by
  obtain ⟨x0⟩ := x
  obtain ⟨y0⟩ := y
  obtain ⟨u0, rfl, _, a0⟩ := hx
  obtain ⟨v0, rfl, _, b0⟩ := hy
  dsimp only at *
  go_enter Try.func49, Try.ntmps49
  go_wp2_with (first | (go_at_call 72; ((with_reducible refine (eqPNodeS_c x0 y0 u0 v0 lo lo' _ ?_ ?_).mono ?_); exact a0.below GPNode.good (by go_grown); exact b0.below GPNode.good (by go_grown); rintro e w1 ⟨rfl, hb⟩; have hw : Below w.heap.size w w1 := Below.trans (by go_grown) (hb.mono (by go_grown)); obtain ⟨hc, hf⟩ := bcell hb; have hz := hw.size; have hz1 := hb.size; have hs0 : w.heap.size < w1.heap.size := (by have h := hz1; (try simp only [World.size_alloc, World.size_setCell, World.size_drew] at h); omega); have hs1 : w.heap.size + 1 < w1.heap.size := (by have h := hz1; (try simp only [World.size_alloc, World.size_setCell, World.size_drew] at h); omega); clear hb)))
  all_goals (go_returns; refine ⟨?_, by go_grown⟩; (try clear hc hf); simp_all [toList_eq] <;> grind)


set_option maxHeartbeats 1000000 in
theorem eqPatS_c (x y : List GPat) (u v : Value) (lo lo' : Nat) (w : World) (hx : Sl GPat.R 1 lo w u x) (hy : Sl GPat.R 1 lo' w v y) :
    Calls Try.prog 22 #[u, v] w fun e w' => e = .returned (.bool (decide (x = y))) ∧ Below w.heap.size w w' := by
  obtain ⟨a1, c1, rfl, l1, m1, h1⟩ := hx
  obtain ⟨a2, c2, rfl, l2, m2, h2⟩ := hy
  obtain ⟨n, hn⟩ : ∃ n, n = x.length := ⟨_, rfl⟩
  obtain ⟨m, hm⟩ : ∃ m, m = y.length := ⟨_, rfl⟩
  rw [← hn] at l1 ⊢
  rw [← hm] at l2 ⊢
  have X1 := Lib.hid hn; have X2 := Lib.hid hm
  clear hn hm
  by_cases hl : n = m
  · subst hl
    go_enter Try.func22, Try.ntmps22
    go_wp2_with fail
    go_loopw [5] (fun i wr => ∃ k : Nat, k ≤ n ∧ i = .int .i64 k ∧ Hid (x.take k = y.take k) ∧ Below w.heap.size w wr) (fun i _ => n - (intOf i).toNat)
    case atStart => exact ⟨0, by omega, rfl, rfl, Below.refl _ _⟩
    case round =>
      obtain ⟨k, hk, rfl, ht, hw⟩ := hrel
      by_cases hlt : k < n
      · obtain ⟨b1, o1, p, s1, _, rfl, P1, q1, r1⟩ := (h1.below GPat.good hw).get X1 hlt
        obtain ⟨b2, o2, q, s2, _, rfl, P2, q2, r2⟩ := (h2.below GPat.good hw).get X2 hlt
        have Q1 := q1; have Q2 := q2
        obtain ⟨s0, rfl, _⟩ := q1; obtain ⟨t0, rfl, _⟩ := q2
        have R1 : ∀ z : Ext wr, z.val.cell? ⟨b1, o1 + k, none⟩ = some (s0) := fun z => (by simpa using (r1.ext z) 0 _ rfl)
        have R2 : ∀ z : Ext wr, z.val.cell? ⟨b2, o2 + k, none⟩ = some (t0) := fun z => (by simpa using (r2.ext z) 0 _ rfl)
        clear r1 r2
        go_wp2_with fail
        refine wp_region_ext_lit (by kernel_rfl) (by kernel_rfl) ?_
        repeat (go_big_quiet_step (((go_at_call 49; exact Calls.ext (eqPat_c p q _ _ _ _ _ (GPat.good.below Q1 (Subtype.property _)) (GPat.good.below Q2 (Subtype.property _)))))))
        refine wpQuiet_nil ?_
        rintro _ ⟨⟨w2, hw2⟩, rfl⟩
        clear R1 R2
        have hw3 := hw.trans (hw2.mono hw.size)
        generalize hd : (decide (p = q)) = d
        have E := Lib.hid hd; clear hd
        cases d
        · have E := neq_of_dec_false E.out
          have E := Lib.hid E
          go_wp2
          go_returns
          refine ⟨?_, hw3⟩
          have : x ≠ y := by
            rintro rfl
            exact E.out (Option.some.inj (P1.out.symm.trans P2.out))
          simp [this]
        · have E := neq_of_dec_true E.out
          have E := Lib.hid E
          go_wp2
          go_roundw
          case rel => exact ⟨k + 1, by omega, by go_num, by show _ = _; rw [take_snoc' P1.out, take_snoc' P2.out, ht.out, E.out], hw3⟩
          case measure => simp [intOf]; omega
      · go_wp2
        go_returns
        refine ⟨?_, hw⟩
        obtain rfl : k = n := by omega
        have h1 : x = y := by
          have := ht.out
          rwa [take_full X1, take_full X2] at this
        simp [h1]
  · go_enter Try.func22, Try.ntmps22
    go_wp2
    go_returns
    refine ⟨?_, Below.refl _ _⟩
    have h1 : x ≠ y := by
      rintro rfl
      exact hl (X1.out.trans X2.out.symm)
    simp [h1]


set_option maxHeartbeats 1000000 in
theorem eqIns_c (x y : GIns) (r s : List Value) (lo lo' : Nat) (w : World) (hx : GIns.R lo w r x) (hy : GIns.R lo' w s y) :
    Calls Try.prog 48 #[.agg r.toArray, .agg s.toArray] w fun e w' => e = .returned (.bool (decide (x = y))) ∧ Below w.heap.size w w' := by
  obtain ⟨x0, x1, x2, x3⟩ := x
  obtain ⟨y0, y1, y2, y3⟩ := y
  obtain ⟨rfl, ⟨wx0, wx1, wx2, wx3⟩⟩ := hx
  obtain ⟨rfl, ⟨wy0, wy1, wy2, wy3⟩⟩ := hy
  dsimp only at *
  go_enter Try.func48, Try.ntmps48
  go_wp2
  all_goals (go_returns; refine ⟨?_, by go_grown⟩; (try clear hc hf); simp_all [toList_eq] <;> grind)


set_option maxHeartbeats 1000000 in
theorem eqInsS_c (x y : List GIns) (u v : Value) (lo lo' : Nat) (w : World) (hx : Sl GIns.R 4 lo w u x) (hy : Sl GIns.R 4 lo' w v y) :
    Calls Try.prog 21 #[u, v] w fun e w' => e = .returned (.bool (decide (x = y))) ∧ Below w.heap.size w w' := by
  obtain ⟨a1, c1, rfl, l1, m1, h1⟩ := hx
  obtain ⟨a2, c2, rfl, l2, m2, h2⟩ := hy
  obtain ⟨n, hn⟩ : ∃ n, n = x.length := ⟨_, rfl⟩
  obtain ⟨m, hm⟩ : ∃ m, m = y.length := ⟨_, rfl⟩
  rw [← hn] at l1 ⊢
  rw [← hm] at l2 ⊢
  have X1 := Lib.hid hn; have X2 := Lib.hid hm
  clear hn hm
  by_cases hl : n = m
  · subst hl
    go_enter Try.func21, Try.ntmps21
    go_wp2_with fail
    go_loopw [5] (fun i wr => ∃ k : Nat, k ≤ n ∧ i = .int .i64 k ∧ Hid (x.take k = y.take k) ∧ Below w.heap.size w wr) (fun i _ => n - (intOf i).toNat)
    case atStart => exact ⟨0, by omega, rfl, rfl, Below.refl _ _⟩
    case round =>
      obtain ⟨k, hk, rfl, ht, hw⟩ := hrel
      by_cases hlt : k < n
      · obtain ⟨b1, o1, p, s1, _, rfl, P1, q1, r1⟩ := (h1.below GIns.good hw).get X1 hlt
        obtain ⟨b2, o2, q, s2, _, rfl, P2, q2, r2⟩ := (h2.below GIns.good hw).get X2 hlt
        have Q1 := q1; have Q2 := q2
        obtain ⟨rfl, _⟩ := q1; obtain ⟨rfl, _⟩ := q2
        have R1 : ∀ z : Ext wr, z.val.cell? ⟨b1, o1 + k * 4, none⟩ = some (.int .i64 p.op) ∧ z.val.cell? ⟨b1, o1 + k * 4 + 1, none⟩ = some (.int .i64 p.a) ∧ z.val.cell? ⟨b1, o1 + k * 4 + 2, none⟩ = some (.int .i64 p.b) ∧ z.val.cell? ⟨b1, o1 + k * 4 + 3, none⟩ = some (.string p.s) := fun z => ⟨by simpa using (r1.ext z) 0 _ rfl, by simpa using (r1.ext z) 1 _ rfl, by simpa using (r1.ext z) 2 _ rfl, by simpa using (r1.ext z) 3 _ rfl⟩
        have R2 : ∀ z : Ext wr, z.val.cell? ⟨b2, o2 + k * 4, none⟩ = some (.int .i64 q.op) ∧ z.val.cell? ⟨b2, o2 + k * 4 + 1, none⟩ = some (.int .i64 q.a) ∧ z.val.cell? ⟨b2, o2 + k * 4 + 2, none⟩ = some (.int .i64 q.b) ∧ z.val.cell? ⟨b2, o2 + k * 4 + 3, none⟩ = some (.string q.s) := fun z => ⟨by simpa using (r2.ext z) 0 _ rfl, by simpa using (r2.ext z) 1 _ rfl, by simpa using (r2.ext z) 2 _ rfl, by simpa using (r2.ext z) 3 _ rfl⟩
        clear r1 r2
        go_wp2_with fail
        refine wp_region_ext_lit (by kernel_rfl) (by kernel_rfl) ?_
        repeat (go_big_quiet_step (((go_at_call 48; exact Calls.ext (eqIns_c p q _ _ _ _ _ (GIns.good.below Q1 (Subtype.property _)) (GIns.good.below Q2 (Subtype.property _)))))))
        refine wpQuiet_nil ?_
        rintro _ ⟨⟨w2, hw2⟩, rfl⟩
        clear R1 R2
        have hw3 := hw.trans (hw2.mono hw.size)
        generalize hd : (decide (p = q)) = d
        have E := Lib.hid hd; clear hd
        cases d
        · have E := neq_of_dec_false E.out
          have E := Lib.hid E
          go_wp2
          go_returns
          refine ⟨?_, hw3⟩
          have : x ≠ y := by
            rintro rfl
            exact E.out (Option.some.inj (P1.out.symm.trans P2.out))
          simp [this]
        · have E := neq_of_dec_true E.out
          have E := Lib.hid E
          go_wp2
          go_roundw
          case rel => exact ⟨k + 1, by omega, by go_num, by show _ = _; rw [take_snoc' P1.out, take_snoc' P2.out, ht.out, E.out], hw3⟩
          case measure => simp [intOf]; omega
      · go_wp2
        go_returns
        refine ⟨?_, hw⟩
        obtain rfl : k = n := by omega
        have h1 : x = y := by
          have := ht.out
          rwa [take_full X1, take_full X2] at this
        simp [h1]
  · go_enter Try.func21, Try.ntmps21
    go_wp2
    go_returns
    refine ⟨?_, Below.refl _ _⟩
    have h1 : x ≠ y := by
      rintro rfl
      exact hl (X1.out.trans X2.out.symm)
    simp [h1]


set_option maxHeartbeats 1000000 in
theorem eqCode_c (x y : GCode) (r s : List Value) (lo lo' : Nat) (w : World) (hx : GCode.R lo w r x) (hy : GCode.R lo' w s y) :
    Calls Try.prog 8 #[.agg r.toArray, .agg s.toArray] w fun e w' => e = .returned (.bool (decide (x = y))) ∧ Below w.heap.size w w' := by
  obtain ⟨x0, x1⟩ := x
  obtain ⟨y0, y1⟩ := y
  obtain ⟨u0, u1, rfl, _, a0, a1⟩ := hx
  obtain ⟨v0, v1, rfl, _, b0, b1⟩ := hy
  dsimp only at *
  go_enter Try.func8, Try.ntmps8
  go_wp2_with (first | (go_at_call 21; ((with_reducible refine (eqInsS_c x0 y0 u0 v0 lo lo' _ ?_ ?_).mono ?_); exact a0.below GIns.good (by go_grown); exact b0.below GIns.good (by go_grown); rintro e w1 ⟨rfl, hb⟩; have hw : Below w.heap.size w w1 := Below.trans (by go_grown) (hb.mono (by go_grown)); obtain ⟨hc, hf⟩ := bcell hb; have hz := hw.size; have hz1 := hb.size; have hs0 : w.heap.size < w1.heap.size := (by have h := hz1; (try simp only [World.size_alloc, World.size_setCell, World.size_drew] at h); omega); have hs1 : w.heap.size + 1 < w1.heap.size := (by have h := hz1; (try simp only [World.size_alloc, World.size_setCell, World.size_drew] at h); omega); clear hb)) | (go_at_call 22; ((with_reducible refine (eqPatS_c x1 y1 u1 v1 lo lo' _ ?_ ?_).mono ?_); exact a1.below GPat.good (by go_grown); exact b1.below GPat.good (by go_grown); rintro e w1 ⟨rfl, hb⟩; have hw : Below w.heap.size w w1 := Below.trans (by go_grown) (hb.mono (by go_grown)); obtain ⟨hc, hf⟩ := bcell hb; have hz := hw.size; have hz1 := hb.size; have hs0 : w.heap.size < w1.heap.size := (by have h := hz1; (try simp only [World.size_alloc, World.size_setCell, World.size_drew] at h); omega); have hs1 : w.heap.size + 1 < w1.heap.size := (by have h := hz1; (try simp only [World.size_alloc, World.size_setCell, World.size_drew] at h); omega); clear hb)))
  all_goals (go_returns; refine ⟨?_, by go_grown⟩; (try clear hc hf); simp_all [toList_eq] <;> grind)


end Go.Proofs.Ytklfepnokidnaaa
